/- Lemmas for NI, part 11: normal.numbers: the numbers of two sides joined, and more. -/
import Derived.Test.YtabajghokhfmhaaGreatNI00
import Derived.Test.YtabajghokhfmhaaGreatNI01
import Derived.Test.YtabajghokhfmhaaGreatNI02
import Derived.Test.YtabajghokhfmhaaGreatNI04
import Derived.Test.YtabajghokhfmhaaGreatNI05
import Derived.Test.YtabajghokhfmhaaGreatNI07
import Derived.Test.YtabajghokhfmhaaGreatNI08
import Derived.Test.YtabajghokhfmhaaGreatNI09
set_option linter.unusedSimpArgs false
set_option linter.unusedVariables false
namespace Go.Proofs.YtabajghokhfmhaaGreat
open Go.RowKit Go.Shelf
theorem infoNm : (Tryz.prog.info? 106).map (fun i => (i.zero, i.size, i.bytes)) = some (some (.agg #[.int .i64 0, .slice none 0 0, .bool false]), 3, 40) := by kernel_rfl
theorem zeroNm (w : World) : (zeroValue 106).run Tryz.prog w = .ok (.agg #[.int .i64 0, .slice none 0 0, .bool false]) w := by
  obtain ⟨i, hi, hz0, hz1, hz2⟩ := info_parts infoNm
  simp [zeroValue, typeInfo, hi, hz0]
def HasB (b : List Nm) (m : Int → Option Nm) : Prop := ∀ q y, m q = some y ↔ y ∈ b ∧ y.attr = q
theorem HasB.nil : HasB [] fun _ => none := fun q y => by simp
theorem HasB.step {b : List Nm} (hb : ascN b) {k : Nat} (hk : k < b.length) {m : Int → Option Nm} (h : HasB (b.take k) m) : HasB (b.take (k + 1)) fun q => if q = b[k].attr then some b[k] else m q := by
  intro q y
  have hlt : ∀ x ∈ b.take k, x.attr < b[k].attr := fun x hx => by
    obtain ⟨j, hj, rfl⟩ := List.mem_take_iff_getElem.1 hx
    exact (List.pairwise_iff_getElem.1 hb) j k (by omega) hk (by omega)
  rw [List.take_succ_eq_append_getElem hk, List.mem_append, List.mem_singleton]
  dsimp only
  by_cases hq : q = b[k].attr
  · rw [if_pos hq]
    constructor
    · intro e; cases e; exact ⟨.inr rfl, hq.symm⟩
    · rintro ⟨h1 | rfl, h2⟩
      · have := hlt y h1; omega
      · rfl
  · rw [if_neg hq, h q y]
    constructor
    · rintro ⟨h1, h2⟩; exact ⟨.inl h1, h2⟩
    · rintro ⟨h1 | rfl, h2⟩
      · exact ⟨h1, h2⟩
      · exact absurd h2.symm hq
structure Jn (a b out : List Nm) (j : Nat) (m : Int → Option Nm) : Prop where
  map : ∀ q y, m q = some y ↔ (y ∈ b ∧ ∀ x ∈ a.take j, x.attr ≠ q) ∧ y.attr = q
  att : out.map Nm.attr = (a.take j).map Nm.attr
  mem : ∀ z, z ∈ out ↔ (z ∈ a.take j ∧ ∀ y ∈ b, y.attr ≠ z.attr) ∨ ∃ x ∈ a.take j, ∃ y ∈ b, ∃ s, x.attr = y.attr ∧ meetN x.inn y.inn = some s ∧ z = ⟨y.attr, s, x.abs && y.abs⟩
  ok : ∀ x ∈ a.take j, ∀ y ∈ b, x.attr = y.attr → meetN x.inn y.inn ≠ none
theorem Jn.start {a b : List Nm} {m : Int → Option Nm} (h : HasB b m) : Jn a b [] 0 m := ⟨fun q y => by rw [h q y]; simp, rfl, fun z => by simp, fun x hx => by simp at hx⟩
theorem take_lt {a : List Nm} (ha : ascN a) {j : Nat} (hj : j < a.length) : ∀ x ∈ a.take j, x.attr < a[j].attr := fun x hx => by
  obtain ⟨i, hi, rfl⟩ := List.mem_take_iff_getElem.1 hx
  exact (List.pairwise_iff_getElem.1 ha) i j (by omega) hj (by omega)
theorem asc_eq {b : List Nm} (hb : ascN b) {x y : Nm} (hx : x ∈ b) (hy : y ∈ b) (h : x.attr = y.attr) : x = y := by
  obtain ⟨i, hi, rfl⟩ := List.mem_iff_getElem.1 hx
  obtain ⟨j, hj, rfl⟩ := List.mem_iff_getElem.1 hy
  have p := List.pairwise_iff_getElem.1 hb
  rcases Nat.lt_trichotomy i j with h1 | h1 | h1
  · have := p i j hi hj h1; omega
  · subst h1; rfl
  · have := p j i hj hi h1; omega
theorem Jn.non {a b out : List Nm} {j : Nat} {m : Int → Option Nm} (h : Jn a b out j m) (ha : ascN a) (hj : j < a.length) (hm : m a[j].attr = none) : Jn a b (out ++ [a[j]]) (j + 1) m := by
  have hlt := take_lt ha hj
  have hb : ∀ y ∈ b, y.attr ≠ a[j].attr := fun y hy e => by
    have := (h.map a[j].attr y).2 ⟨⟨hy, fun x hx e2 => by have := hlt x hx; omega⟩, e⟩
    rw [hm] at this; cases this
  refine ⟨fun q y => ?_, ?_, fun z => ?_, fun x hx y hy e => ?_⟩
  · rw [h.map, List.take_succ_eq_append_getElem hj]
    constructor
    · rintro ⟨⟨h1, h2⟩, h3⟩
      refine ⟨⟨h1, fun x hx => ?_⟩, h3⟩
      rcases List.mem_append.1 hx with hx | hx
      · exact h2 x hx
      · rw [List.mem_singleton] at hx; subst hx; exact fun e => hb y h1 (h3.trans e.symm)
    · rintro ⟨⟨h1, h2⟩, h3⟩
      exact ⟨⟨h1, fun x hx => h2 x (List.mem_append_left _ hx)⟩, h3⟩
  · rw [List.map_append, h.att, List.take_succ_eq_append_getElem hj, List.map_append]; try rfl
  · rw [List.mem_append, h.mem, List.mem_singleton, List.take_succ_eq_append_getElem hj]
    constructor
    · rintro ((⟨h1, h2⟩ | ⟨x, hx, y, hy, s, h1, h2, h3⟩) | rfl)
      · exact .inl ⟨List.mem_append_left _ h1, h2⟩
      · exact .inr ⟨x, List.mem_append_left _ hx, y, hy, s, h1, h2, h3⟩
      · exact .inl ⟨List.mem_append_right _ (List.mem_singleton.2 rfl), hb⟩
    · rintro (⟨h1, h2⟩ | ⟨x, hx, y, hy, s, h1, h2, h3⟩)
      · rcases List.mem_append.1 h1 with h1 | h1
        · exact .inl (.inl ⟨h1, h2⟩)
        · rw [List.mem_singleton] at h1; exact .inr h1
      · rcases List.mem_append.1 hx with hx | hx
        · exact .inl (.inr ⟨x, hx, y, hy, s, h1, h2, h3⟩)
        · rw [List.mem_singleton] at hx; subst hx; exact absurd h1.symm (hb y hy)
  · rw [List.take_succ_eq_append_getElem hj] at hx
    rcases List.mem_append.1 hx with hx | hx
    · exact h.ok x hx y hy e
    · rw [List.mem_singleton] at hx; subst hx; exact absurd e.symm (hb y hy)
theorem Jn.yes {a b out : List Nm} {j : Nat} {m : Int → Option Nm} (h : Jn a b out j m) (ha : ascN a) (hb : ascN b) (hj : j < a.length) {y : Nm} (hm : m a[j].attr = some y) {s : List Itv} (hs : meetN a[j].inn y.inn = some s) :
    Jn a b (out ++ [⟨a[j].attr, s, a[j].abs && y.abs⟩]) (j + 1) fun q => if q = a[j].attr then none else m q := by
  have hlt := take_lt ha hj
  obtain ⟨⟨hyb, -⟩, hye⟩ := (h.map _ _).1 hm
  refine ⟨fun q z => ?_, ?_, fun z => ?_, fun x hx z hz e => ?_⟩
  · rw [List.take_succ_eq_append_getElem hj]
    by_cases hq : q = a[j].attr
    · rw [if_pos hq]
      constructor
      · intro e; cases e
      · rintro ⟨⟨h1, h2⟩, h3⟩
        exact absurd hq.symm (h2 a[j] (List.mem_append_right _ (List.mem_singleton.2 rfl)))
    · rw [if_neg hq, h.map]
      constructor
      · rintro ⟨⟨h1, h2⟩, h3⟩
        refine ⟨⟨h1, fun x hx => ?_⟩, h3⟩
        rcases List.mem_append.1 hx with hx | hx
        · exact h2 x hx
        · rw [List.mem_singleton] at hx; subst hx; exact fun e => hq e.symm
      · rintro ⟨⟨h1, h2⟩, h3⟩
        exact ⟨⟨h1, fun x hx => h2 x (List.mem_append_left _ hx)⟩, h3⟩
  · rw [List.map_append, h.att, List.take_succ_eq_append_getElem hj, List.map_append]; try rfl
  · rw [List.mem_append, h.mem, List.mem_singleton, List.take_succ_eq_append_getElem hj]
    constructor
    · rintro ((⟨h1, h2⟩ | ⟨x, hx, y, hy, s, h1, h2, h3⟩) | rfl)
      · exact .inl ⟨List.mem_append_left _ h1, h2⟩
      · exact .inr ⟨x, List.mem_append_left _ hx, y, hy, s, h1, h2, h3⟩
      · exact .inr ⟨a[j], List.mem_append_right _ (List.mem_singleton.2 rfl), y, hyb, s, hye.symm, hs, by rw [hye]⟩
    · rintro (⟨h1, h2⟩ | ⟨x, hx, z', hz, s', h1, h2, h3⟩)
      · rcases List.mem_append.1 h1 with h1 | h1
        · exact .inl (.inl ⟨h1, h2⟩)
        · rw [List.mem_singleton] at h1; subst h1; exact absurd hye (h2 y hyb)
      · rcases List.mem_append.1 hx with hx | hx
        · exact .inl (.inr ⟨x, hx, z', hz, s', h1, h2, h3⟩)
        · rw [List.mem_singleton] at hx; subst hx
          obtain rfl := asc_eq hb hz hyb (h1.symm.trans hye.symm)
          rw [hs] at h2; cases h2
          exact .inr (by rw [h3, hye])
  · rw [List.take_succ_eq_append_getElem hj] at hx
    rcases List.mem_append.1 hx with hx | hx
    · exact h.ok x hx z hz e
    · rw [List.mem_singleton] at hx; subst hx
      obtain rfl := asc_eq hb hz hyb (e.symm.trans hye.symm)
      rw [hs]; simp
theorem Jn.fail {a b out : List Nm} {j : Nat} {m : Int → Option Nm} (h : Jn a b out j m) (ha : ascN a) (hb : ascN b) (hj : j < a.length) {y : Nm} (hm : m a[j].attr = some y) (hs : meetN a[j].inn y.inn = none) : joinN a b = none := by
  obtain ⟨⟨hyb, -⟩, hye⟩ := (h.map _ _).1 hm
  exact (joinN_law ha hb).2.2 ⟨a[j], List.getElem_mem hj, y, hyb, hye.symm, hs⟩
structure Jr (a b out0 out : List Nm) (m : Int → Option Nm) : Prop where
  map : ∀ q y, m q = some y → (y ∈ b ∧ ∀ x ∈ a, x.attr ≠ q) ∧ y.attr = q
  nod : (out.map Nm.attr).Nodup
  mem : ∀ z, z ∈ out ↔ z ∈ out0 ∨ (z ∈ b ∧ (∀ x ∈ a, x.attr ≠ z.attr) ∧ m z.attr = none)
theorem Jr.start {a b out : List Nm} {m : Int → Option Nm} (h : Jn a b out a.length m) (ha : ascN a) : Jr a b out out m := by
  refine ⟨fun q y hq => ?_, ?_, fun z => ⟨fun h1 => .inl h1, ?_⟩⟩
  · have := (h.map q y).1 hq; rwa [List.take_length] at this
  · rw [h.att, List.take_length]
    unfold List.Nodup
    rw [List.pairwise_map]
    exact List.Pairwise.imp (fun {x y} (hxy : x.attr < y.attr) e => by omega) ha
  · rintro (h1 | ⟨h1, h2, h3⟩)
    · exact h1
    · have := (h.map z.attr z).2 ⟨⟨h1, by rw [List.take_length]; exact h2⟩, rfl⟩
      rw [h3] at this; cases this
theorem Jr.step {a b out0 out : List Nm} {m : Int → Option Nm} (h : Jr a b out0 out m) (hb : ascN b) (h0 : ∀ z ∈ out0, ∃ x ∈ a, x.attr = z.attr) {y : Nm} (hy : m y.attr = some y) : Jr a b out0 (out ++ [y]) fun q => if q = y.attr then none else m q := by
  obtain ⟨⟨h1, h2⟩, -⟩ := h.map _ _ hy
  refine ⟨fun q z hq => ?_, ?_, fun z => ?_⟩
  · split at hq
    · cases hq
    · exact h.map q z hq
  · rw [List.map_append, List.map_cons, List.map_nil, List.nodup_append]
    refine ⟨h.nod, by simp, fun p hp q hq e => ?_⟩
    rw [List.mem_singleton] at hq
    obtain ⟨z, hz, rfl⟩ := List.mem_map.1 hp
    rcases (h.mem z).1 hz with h3 | ⟨h3, h4, h5⟩
    · obtain ⟨x, hx, h6⟩ := h0 z h3
      exact h2 x hx (by rw [h6, e, hq])
    · rw [e, hq] at h5
      rw [hy] at h5; cases h5
  · rw [List.mem_append, h.mem, List.mem_singleton]
    constructor
    · rintro ((h3 | ⟨h3, h4, h5⟩) | rfl)
      · exact .inl h3
      · exact .inr ⟨h3, h4, by rw [h5]; simp⟩
      · exact .inr ⟨h1, h2, by simp⟩
    · rintro (h3 | ⟨h3, h4, h5⟩)
      · exact .inl (.inl h3)
      · by_cases e : z.attr = y.attr
        · exact .inr (asc_eq hb h3 h1 e)
        · rw [if_neg e] at h5; exact .inl (.inr ⟨h3, h4, h5⟩)
theorem Jr.done {a b out0 out xs : List Nm} {m m' : Int → Option Nm} (h0 : Jn a b out0 a.length m) (h : Jr a b out0 out m') (hm : ∀ y ∈ b, m' y.attr = none) (ha : ascN a) (hb : ascN b) (hp : xs.Perm out) (hs : xs.Pairwise fun x y => x.attr ≤ y.attr) : joinN a b = some xs := by
  cases hj : joinN a b with
  | none =>
    obtain ⟨x, hx, y, hy, h1, h2⟩ := (joinN_law ha hb).2.1 hj
    exact absurd h2 (h0.ok x (by rw [List.take_length]; exact hx) y hy h1)
  | some r =>
    have hI := (joinN_law ha hb).1 r hj
    have hn : xs.Pairwise fun x y => x.attr ≠ y.attr := by
      have : (xs.map Nm.attr).Nodup := (hp.map _).nodup_iff.2 h.nod
      unfold List.Nodup at this
      rwa [List.pairwise_map] at this
    have hI2 : IsJ a b xs := by
      refine ⟨?_, fun z => ?_⟩
      · exact (hs.and hn).imp fun {x y} h => by have := h.1; have := h.2; omega
      · rw [hp.mem_iff, h.mem, h0.mem, List.take_length]
        constructor
        · rintro ((h1 | h1) | ⟨h1, h2, h3⟩)
          · exact .inl h1
          · exact .inr (.inr h1)
          · exact .inr (.inl ⟨h1, h2⟩)
        · rintro (h1 | ⟨h1, h2⟩ | h1)
          · exact .inl (.inl h1)
          · exact .inr ⟨h1, h2, hm z h1⟩
          · exact .inl (.inr h1)
    rw [hI.uniq hI2]
theorem Jn.att0 {a b out : List Nm} {m : Int → Option Nm} (h : Jn a b out a.length m) : ∀ z ∈ out, ∃ x ∈ a, x.attr = z.attr := fun z hz => by
  have : z.attr ∈ out.map Nm.attr := List.mem_map_of_mem hz
  rw [h.att, List.take_length] at this
  obtain ⟨x, hx, e⟩ := List.mem_map.1 this
  exact ⟨x, hx, e⟩
theorem Jn.len {a b out : List Nm} {j : Nat} {m : Int → Option Nm} (h : Jn a b out j m) : out.length ≤ a.length := by
  have := congrArg List.length h.att
  rw [List.length_map, List.length_map, List.length_take] at this
  omega
def NumQ (w : World) (H : PH) (r : Option (List Nm)) (e : Ending) (w' : World) : Prop :=
  ∃ v c, e = .returned (.tuple #[v, .int .i64 c]) ∧ Ext w w' ∧ match r with | some l => c = 0 ∧ NumsR (up H w w') v l | none => c ≠ 0 ∧ v = .slice none 0 0
theorem Mem.fst2 {w0 w : World} {H0 H : PH} {c d : Chunk} {L : List Chunk} (h : Mem w0 H0 (c :: d :: L) H w) : Mem w0 H0 [c, d] H w := h.re (fun i => i) (fun i x hi => match i, hi with | 0, hi => hi | 1, hi => hi) fun i j hij _ _ => hij
theorem lit_Nm {H : PH} {x : Nm} {cs : List Value} (h : NumR H cs x) (w : World) : Src (w.alloc (.cells cs.toArray 106)) H NumR 3 (.slice (some ⟨w.heap.size, 0, none⟩) 1 1) [x] :=
  Src.lit1 h h.len fun j => by rw [(Proofs.YtabajghokhfmhaaGreat.Own.new w cs.toArray 106).facts.1 j]; simp
abbrev JN (w : World) (H H4 : PH) (vo : Value) (out : List Nm) (g1 c : Nat) (m : Int → Option Nm) (g2 g3 : Nat) (A0 A1 A3 A2 : Value) (C : Array Value) : Qj.Inv := fun dn _ wx => Mem w H [own mono_NumR 3 106 vo out, mapN g1 c m, box g2 #[A0, if dn 8 then A3 else A1, A2] 106, box g3 C 106] H4 wx
set_option maxRecDepth 100000 in
set_option maxHeartbeats 4000000 in
theorem numbers_c {H : PH} (va vb : Value) (a b : List Nm) (w : World) (hl : PLe H (ph w)) (ha : NumsR H va a) (hb : NumsR H vb b) (haa : ascN a) (hbb : ascN b) (hn : a.length + b.length ≤ 100000) :
    Calls Tryz.prog 156 #[va, vb] w (NumQ w H (joinN a b)) := by
  obtain ⟨ia, ja, rfl, -, ha⟩ := ha.form
  obtain ⟨ib, jb, rfl, -, hb⟩ := hb.form
  have hM0 := (Mem.start w H hl).newMapN
  simp only [List.nil_append] at hM0
  replace haa := Lib.hid haa
  replace hbb := Lib.hid hbb
  have hmm := @run_makeMap Tryz.prog
  go_enter Tryz.func156, Tryz.ntmps156
  go_upto_block 0 with (fail)
  generalize hg1 : w.heap.size = g1 at *
  clear hmm
  generalize World.alloc _ _ = w1 at *
  go_wp2_with fail
  go_loopw [21] (fun i wr => ∃ k : Nat, k ≤ b.length ∧ i = .int .i64 k ∧ ∃ m, Hid (HasB (b.take k) m) ∧ Mem w H [mapN g1 k m] H wr) (fun i _ => b.length - (intOf i).toNat)
  case atStart => exact ⟨0, Nat.zero_le _, rfl, _, Lib.hid HasB.nil, hM0⟩
  case round =>
    clear hM0
    obtain ⟨k, hk, rfl, m, hB, hM⟩ := hrel
    by_cases hlt : k < b.length
    · obtain ⟨b0, o, a1, c1, rfl, h0, h1, h2, hI, hR, hbl⟩ := NumsR.atH hb hM.ple k hlt
      have hM2 := hM.new' #[.int .i64 b[k].attr, .slice a1 b[k].inn.length c1, .bool b[k].abs] 106 (n := wr.heap.size) rfl
      simp only [List.nil_append, List.cons_append, List.set_cons_zero, List.set_cons_succ] at hM2
      have hB2 := Lib.hid (HasB.step hbb.out hlt hB.out)
      have hE : NumR H [.int .i64 b[k].attr, .slice a1 b[k].inn.length c1, .bool b[k].abs] b[k] := ⟨_, _, rfl, hI, hR⟩
      generalize b[k] = y at *
      clear hB
      have hkm : k < maxLen := by unfold maxLen; omega
      go_upto_region 5 with (fail)
      generalize hg2 : wr.heap.size = g2 at *
      generalize World.alloc _ _ = w2 at *
      obtain ⟨u0, u1, u2, ul⟩ := hM2.cellsT 1 rfl
      go_wp2_with (first | (at_mapUpdate; go_loud (refine wpList_put_N 0 rfl _ _ _ 222 106 rfl Tryz.underlying222 rfl hM2 rfl rfl hkm rfl hE ?c5)))
      case c5 =>
        intro w3 hM3
        try simp only [List.set_cons_zero] at hM3
        replace hM3 := hM3.only
        clear hM2 hM
        go_wp2_with fail
        go_roundw
        case rel => exact ⟨k + 1, by omega, by go_num, _, hB2, hM3⟩
        case measure => simp [intOf]; omega
    · have hbk : k = b.length := by omega
      subst hbk
      rw [List.take_length] at hB
      have hJ := Lib.hid (Jn.start (a := a) hB.out)
      have hM0 := (hM.nil mono_NumR 3 106).front
      clear hM hB
      go_wp2_with fail
      go_loopw [9, 32] (fun vo i wr => ∃ j : Nat, j ≤ a.length ∧ i = .int .i64 j ∧ ∃ out m H2, PLe H H2 ∧ Hid (Jn a b out j m) ∧ Mem w H [own mono_NumR 3 106 vo out, mapN g1 b.length m] H2 wr) (fun _ i _ => a.length - (intOf i).toNat)
      case atStart => exact ⟨0, Nat.zero_le _, rfl, _, _, H, PLe.refl _, hJ, hM0⟩
      case round =>
        clear hM0 hJ
        obtain ⟨j, hj, rfl, out, m, H2, hl2, hJ, hM⟩ := hrel
        obtain ⟨oo, oc, rfl, -⟩ := hM.form 0 rfl
        by_cases hlt : j < a.length
        · obtain ⟨a0, o, a1, c1, rfl, h0, h1, h2, hI, hR, hbl⟩ := NumsR.atH ha (hl2.trans hM.ple) j hlt
          have hM2 := hM.new' #[.int .i64 a[j].attr, .slice a1 a[j].inn.length c1, .bool a[j].abs] 106 (n := wr.heap.size) rfl
          simp only [List.nil_append, List.cons_append] at hM2
          have hJn := Lib.hid (fun h => Jn.non hJ.out haa.out hlt h)
          have hJy := Lib.hid (fun (y : Nm) h (s : List Itv) hs => Jn.yes hJ.out haa.out hbb.out hlt (y := y) h (s := s) hs)
          have hJf := Lib.hid (fun (y : Nm) h hs => Jn.fail hJ.out haa.out hbb.out hlt (y := y) h hs)
          have hE : NumR H2 [.int .i64 a[j].attr, .slice a1 a[j].inn.length c1, .bool a[j].abs] a[j] := ⟨_, _, rfl, hI, hR.mono mono_ItvR hl2⟩
          generalize a[j] = x at *
          go_upto_region 11 with (fail)
          generalize hg2 : wr.heap.size = g2 at *
          generalize World.alloc _ _ = w2 at *
          obtain ⟨u0, u1, u2, ul⟩ := hM2.cellsT 2 rfl
          go_wp2_with (first | (at_lookup; refine wpList_look_N 1 rfl _ _ 222 106 rfl Tryz.underlying222 (zeroNm _) rfl hM2 rfl rfl hI ?cno ?cyes))
          case cno =>
            intro hmn
            have hJN := Lib.hid (hJn.out hmn)
            clear hJn hJy hJf
            go_upto_region 18 with (fail)
            have hM3 := hM2.ext (Ext.new w2 (.cells #[.int .i64 0, .slice none 0 0, .bool false] 106))
            clear u0 u1 u2 ul hM
            generalize World.alloc _ _ = w3 at *
            have HH := hl2
            obtain ⟨u0, u1, u2, ul⟩ := hM3.cellsT 2 rfl
            have hS := lit_Nm hE w3
            have hM7 := hM3.ext (Ext.new w3 (.cells ([.int .i64 x.attr, .slice a1 x.inn.length c1, .bool x.abs] : List Value).toArray 106))
            have hol := Jn.len hJ.out
            go_wp2_with (first | (at_builtin; refine wpList_append_M 0 rfl _ _ 51 rfl Tryz.underlying51 infoNm rfl rfl rfl hM7 rfl hS one_NumR ?c3 ?c4 ?c5))
            case c3 => simp only [List.length_singleton]; omega
            case c4 => simp only [List.length_singleton]; omega
            case c5 =>
              intro v8 w8 hM8
              try simp only [List.set_cons_zero] at hM8
              replace hM8 := hM8.fst2
              clear hM7 hS
              go_wp2_with fail
              go_roundw
              case rel => exact ⟨j + 1, by omega, by go_num, _, _, _, HH, hJN, hM8⟩
              case measure => simp [intOf]; omega
          case cyes =>
            intro y cs hmy hya hEy
            obtain ⟨a2, c2, rfl, hI2, hR2⟩ := hEy
            have hJy2 := Lib.hid (hJy.out y hmy)
            have hJf2 := Lib.hid (hJf.out y hmy)
            replace hya := Lib.hid hya
            replace hmy := Lib.hid hmy
            clear hJn hJy hJf
            go_upto_region 13 with (fail)
            have hM3 := hM2.new' #[.int .i64 y.attr, .slice a2 y.inn.length c2, .bool y.abs] 106 (n := w2.heap.size) rfl
            simp only [List.nil_append, List.cons_append] at hM3
            generalize hg3 : w2.heap.size = g3 at *
            clear u0 u1 u2 ul hM
            generalize World.alloc _ _ = w3 at *
            obtain ⟨u0, u1, u2, ul⟩ := hM3.cellsT 2 rfl
            obtain ⟨z0, z1, z2, zl⟩ := hM3.cellsT 3 rfl
            have hMt := Lib.hid (meet_c (.slice a1 x.inn.length c1) (.slice a2 y.inn.length c2) x.inn y.inn w3 ((hR.mono mono_ItvR hl2).mono mono_ItvR hM3.ple) (hR2.mono mono_ItvR hM3.ple))
            go_wp2_with fail
            refine hMt.out.mono ?_
            rintro e w4 ⟨v4, rfl, hx4, hr4⟩
            clear hMt u0 u1 u2 ul z0 z1 z2 zl
            cases hmt : meetN x.inn y.inn with
            | none =>
              have hc := meetN_none hmt
              have hj := Lib.hid (hJf2.out hmt)
              have hx9 := (hM3.ext hx4).ex
              clear hJf2 hJy2 hmt
              generalize twoS andK x.inn y.inn = tw at *
              obtain ⟨p4, q4, rfl, -⟩ := hr4.form
              have b1 : (tw.2 == 0) = false := by simpa using hc
              have b2 : (tw.2 != 0) = true := by simpa using hc
              have hc := Lib.hid hc
              go_wp2_with fail
              go_ret2
              exact ⟨_, _, rfl, hx9, by rw [hj.out]; exact ⟨hc.out, rfl⟩⟩
            | some s =>
              have htw := meetN_some hmt
              rw [htw] at hr4 ⊢
              have hJN := Lib.hid (hJy2.out s hmt)
              clear hJf2 hJy2 hmt htw
              dsimp only at hr4 ⊢
              obtain ⟨p4, q4, rfl, -⟩ := hr4.form
              have hM4 := hM3.up hx4
              have HH : PLe H (up H2 w3 w4) := hl2.trans (ple_up hM3.ple)
              have hrs : ItvsR (up H2 w3 w4) (.slice p4 s.length q4) s := hr4.mono mono_ItvR (up_mono (noH_le _))
              clear hr4 hM3 hM2
              generalize up H2 w3 w4 = H4 at *
              obtain ⟨u0, u1, u2, ul⟩ := hM4.cellsT 2 rfl
              obtain ⟨z0, z1, z2, zl⟩ := hM4.cellsT 3 rfl
              go_upto_region 16 with (fail)
              clear u0 u1 u2 ul z0 z1 z2 zl
              generalize hxa : x.abs = xa at *
              cases xa
              ·
                (refine Qj.wp_region_J 9 (JN w H H4 (.slice oo out.length oc) out g1 b.length m g2 g3 (.int .i64 x.attr) (.slice a1 x.inn.length c1) (.slice p4 s.length q4) (.bool false) #[.int .i64 y.attr, .slice a2 y.inn.length c2, .bool y.abs]) (hM4.ex) (by kernel_rfl) (by kernel_rfl) (hM4.ext (Ext.rfl' _).drew') ?_; simp only [List.toList_toArray, List.take_succ_cons, List.take_zero, List.drop_succ_cons, List.drop_zero])
                iterate 2 (refine Qj.walkI_is (u := ?_) rfl (by simp) rfl (fun dn s w h => h) ?_ ?_; rotate_left; (focus (intro A w' dn hS hJ hdn hA K hK; (try simp only [List.map_cons, List.map_nil, Qj.knows, Qj.Is, Qj.Any, Op.operands, Call.operands, List.lookup_cons, List.lookup_nil, Nat.reduceBEq, Bool.false_eq_true, if_false, if_true, Act.eval, Array.getD_eq_getD_getElem?, List.getElem?_toArray, List.getElem?_cons_succ, List.getElem?_cons_zero, Option.getD_some, and_true, true_and, List.append_toArray, List.nil_append, List.cons_append, List.toList_toArray, Array.toList_append, Option.toArray, List.append_nil] at hA); (obtain ⟨hSc, hSf, hSs⟩ := hS.cells; go_simp; exact hK))); (try simp only [List.nil_append, List.cons_append]))
                (refine Qj.walkI_is (u := ?_) rfl (by simp) rfl (fun dn s w h => h) ?_ ?_; rotate_left; (focus (intro A w' dn hS hJ hdn hA K hK; (try simp only [List.map_cons, List.map_nil, Qj.knows, Qj.Is, Qj.Any, Op.operands, Call.operands, List.lookup_cons, List.lookup_nil, Nat.reduceBEq, Bool.false_eq_true, if_false, if_true, Act.eval, Array.getD_eq_getD_getElem?, List.getElem?_toArray, List.getElem?_cons_succ, List.getElem?_cons_zero, Option.getD_some, and_true, true_and, List.append_toArray, List.nil_append, List.cons_append, List.toList_toArray, Array.toList_append, Option.toArray, List.append_nil] at hA); first | (have q := (Mem.cellsT hJ 2 rfl).2.2.1; go_simp; exact hK) | (obtain ⟨hSc, hSf, hSs⟩ := hS.cells; go_simp; exact hK))); (try simp only [List.nil_append, List.cons_append]))
                (refine Qj.walkI_is (u := ?_) rfl (by simp) rfl (fun dn s w h => h) ?_ ?_; rotate_left; (focus (intro A w' dn hS hJ hdn hA K hK; (try simp only [List.map_cons, List.map_nil, Qj.knows, Qj.Is, Qj.Any, Op.operands, Call.operands, List.lookup_cons, List.lookup_nil, Nat.reduceBEq, Bool.false_eq_true, if_false, if_true, Act.eval, Array.getD_eq_getD_getElem?, List.getElem?_toArray, List.getElem?_cons_succ, List.getElem?_cons_zero, Option.getD_some, and_true, true_and, List.append_toArray, List.nil_append, List.cons_append, List.toList_toArray, Array.toList_append, Option.toArray, List.append_nil] at hA); (obtain ⟨hSc, hSf, hSs⟩ := hS.cells; go_simp; exact hK))); (try simp only [List.nil_append, List.cons_append]))
                iterate 2 (refine Qj.walkI_no rfl (by simp) rfl rfl rfl ?_ (fun dn s w h => h) ?_; (focus (simp [undef]; done)); (try simp only [List.nil_append, List.cons_append]))
                iterate 2 (refine Qj.walkI_is (u := ?_) rfl (by simp) rfl (fun dn s w h => h) ?_ ?_; rotate_left; (focus (intro A w' dn hS hJ hdn hA K hK; (try simp only [List.map_cons, List.map_nil, Qj.knows, Qj.Is, Qj.Any, Op.operands, Call.operands, List.lookup_cons, List.lookup_nil, Nat.reduceBEq, Bool.false_eq_true, if_false, if_true, Act.eval, Array.getD_eq_getD_getElem?, List.getElem?_toArray, List.getElem?_cons_succ, List.getElem?_cons_zero, Option.getD_some, and_true, true_and, List.append_toArray, List.nil_append, List.cons_append, List.toList_toArray, Array.toList_append, Option.toArray, List.append_nil] at hA); (obtain ⟨hSc, hSf, hSs⟩ := hS.cells; go_simp; exact hK))); (try simp only [List.nil_append, List.cons_append]))
                (refine Qj.walkI_none 1000 (by rfl) (by exact Nat.le_of_ble_eq_true rfl) (by rfl) ?_ ?_; (focus (intro A w' dn hS hJ hd0 hdn hA K hK; (try simp only [List.map_cons, List.map_nil, Qj.knows, Qj.Is, Qj.Any, Op.operands, Call.operands, List.lookup_cons, List.lookup_nil, Nat.reduceBEq, Bool.false_eq_true, if_false, if_true, Act.eval, Array.getD_eq_getD_getElem?, List.getElem?_toArray, List.getElem?_cons_succ, List.getElem?_cons_zero, Option.getD_some, and_true, true_and, List.append_toArray, List.nil_append, List.cons_append, List.toList_toArray, Array.toList_append, Option.toArray, List.append_nil] at hA); (have hd8 : dn 8 = false := hd0; have i3 : Mem w H [own mono_NumR 3 106 (.slice oo out.length oc) out, mapN g1 b.length m, box g2 #[.int .i64 x.attr, .slice a1 x.inn.length c1, .bool false] 106, box g3 #[.int .i64 y.attr, .slice a2 y.inn.length c2, .bool y.abs] 106] H4 w' := (by have hJ2 := hJ; simp only [JN, hd8] at hJ2; exact hJ2); obtain ⟨q0, q1, q2, ql, qf⟩ := i3.cellsF 2 rfl; have i4 := i3.set 2 rfl 1 (.slice p4 s.length q4); go_simp; exact hK _ i4.ex (by simpa [JN, Qj.upd] using i4)))); (try simp only [List.nil_append, List.cons_append]))
                (refine Qj.walkI_nil ?_; simp only [List.nil_append, List.cons_append, Qj.fins, Qj.Is, Qj.Any, forall_eq, true_implies, Act.put, List.setIfInBounds_toArray, List.set_cons_zero, List.set_cons_succ, List.set_nil, forall_const])
                intro w5 hx5 hM5
                have hM6 : Mem w H [own mono_NumR 3 106 (.slice oo out.length oc) out, mapN g1 b.length m, box g2 #[.int .i64 x.attr, .slice p4 s.length q4, .bool false] 106, box g3 #[.int .i64 y.attr, .slice a2 y.inn.length c2, .bool y.abs] 106] H4 w5 := hM5
                obtain ⟨u0, u1, u2, ul, uf⟩ := hM6.cellsF 2 rfl
                clear hM5 hM4
                go_upto_region 17 with (fail)
                have hM7 := hM6.set 2 rfl 2 (.bool false)
                simp only [List.set_cons_zero, List.set_cons_succ, List.setIfInBounds_toArray] at hM7
                have hE2 : NumR H4 [.int .i64 x.attr, .slice p4 s.length q4, .bool false] ⟨x.attr, s, false && y.abs⟩ := ⟨_, _, rfl, hI, hrs⟩
                clear hM6 u0 u1 u2 ul uf
                generalize World.setCell _ _ _ = w6 at *
                obtain ⟨u0, u1, u2, ul⟩ := hM7.cellsT 2 rfl
                go_wp2_with (first | (at_delete; refine wpList_del_N 1 rfl _ _ 222 rfl 106 Tryz.underlying222 rfl hM7 rfl rfl hI ?cdel))
                case cdel =>
                  intro w7 hM8
                  try simp only [List.set_cons_zero, List.set_cons_succ] at hM8
                  clear hM7 u0 u1 u2 ul
                  obtain ⟨u0, u1, u2, ul⟩ := hM8.cellsT 2 rfl
                  have hS := lit_Nm hE2 w7
                  have hM7 := hM8.ext (Ext.new w7 (.cells ([.int .i64 x.attr, .slice p4 s.length q4, .bool false] : List Value).toArray 106))
                  have hol := Jn.len hJ.out
                  go_wp2_with (first | (at_builtin; refine wpList_append_M 0 rfl _ _ 51 rfl Tryz.underlying51 infoNm rfl rfl rfl hM7 rfl hS one_NumR ?c3 ?c4 ?c5))
                  case c3 => simp only [List.length_singleton]; omega
                  case c4 => simp only [List.length_singleton]; omega
                  case c5 =>
                    intro v8 w8 hM8
                    try simp only [List.set_cons_zero] at hM8
                    replace hM8 := hM8.fst2
                    clear hM7 hS
                    go_wp2_with fail
                    go_roundw
                    case rel => exact ⟨j + 1, by omega, by go_num, _, _, _, HH, hJN, hM8⟩
                    case measure => simp [intOf]; omega
              ·
                (refine Qj.wp_region_J 9 (JN w H H4 (.slice oo out.length oc) out g1 b.length m g2 g3 (.int .i64 x.attr) (.slice a1 x.inn.length c1) (.slice p4 s.length q4) (.bool true) #[.int .i64 y.attr, .slice a2 y.inn.length c2, .bool y.abs]) (hM4.ex) (by kernel_rfl) (by kernel_rfl) (hM4.ext (Ext.rfl' _).drew') ?_; simp only [List.toList_toArray, List.take_succ_cons, List.take_zero, List.drop_succ_cons, List.drop_zero])
                iterate 2 (refine Qj.walkI_is (u := ?_) rfl (by simp) rfl (fun dn s w h => h) ?_ ?_; rotate_left; (focus (intro A w' dn hS hJ hdn hA K hK; (try simp only [List.map_cons, List.map_nil, Qj.knows, Qj.Is, Qj.Any, Op.operands, Call.operands, List.lookup_cons, List.lookup_nil, Nat.reduceBEq, Bool.false_eq_true, if_false, if_true, Act.eval, Array.getD_eq_getD_getElem?, List.getElem?_toArray, List.getElem?_cons_succ, List.getElem?_cons_zero, Option.getD_some, and_true, true_and, List.append_toArray, List.nil_append, List.cons_append, List.toList_toArray, Array.toList_append, Option.toArray, List.append_nil] at hA); (obtain ⟨hSc, hSf, hSs⟩ := hS.cells; go_simp; exact hK))); (try simp only [List.nil_append, List.cons_append]))
                (refine Qj.walkI_is (u := ?_) rfl (by simp) rfl (fun dn s w h => h) ?_ ?_; rotate_left; (focus (intro A w' dn hS hJ hdn hA K hK; (try simp only [List.map_cons, List.map_nil, Qj.knows, Qj.Is, Qj.Any, Op.operands, Call.operands, List.lookup_cons, List.lookup_nil, Nat.reduceBEq, Bool.false_eq_true, if_false, if_true, Act.eval, Array.getD_eq_getD_getElem?, List.getElem?_toArray, List.getElem?_cons_succ, List.getElem?_cons_zero, Option.getD_some, and_true, true_and, List.append_toArray, List.nil_append, List.cons_append, List.toList_toArray, Array.toList_append, Option.toArray, List.append_nil] at hA); first | (have q := (Mem.cellsT hJ 2 rfl).2.2.1; go_simp; exact hK) | (obtain ⟨hSc, hSf, hSs⟩ := hS.cells; go_simp; exact hK))); (try simp only [List.nil_append, List.cons_append]))
                (refine Qj.walkI_is (u := ?_) rfl (by simp) rfl (fun dn s w h => h) ?_ ?_; rotate_left; (focus (intro A w' dn hS hJ hdn hA K hK; (try simp only [List.map_cons, List.map_nil, Qj.knows, Qj.Is, Qj.Any, Op.operands, Call.operands, List.lookup_cons, List.lookup_nil, Nat.reduceBEq, Bool.false_eq_true, if_false, if_true, Act.eval, Array.getD_eq_getD_getElem?, List.getElem?_toArray, List.getElem?_cons_succ, List.getElem?_cons_zero, Option.getD_some, and_true, true_and, List.append_toArray, List.nil_append, List.cons_append, List.toList_toArray, Array.toList_append, Option.toArray, List.append_nil] at hA); (obtain ⟨hSc, hSf, hSs⟩ := hS.cells; go_simp; exact hK))); (try simp only [List.nil_append, List.cons_append]))
                (refine Qj.walkI_yesis (u := ?_) rfl (by simp) rfl rfl rfl (fun dn s w h => h) ?_ ?_; rotate_left; (focus (intro A w' dn hS hJ hdn hA K hK; (try simp only [List.map_cons, List.map_nil, Qj.knows, Qj.Is, Qj.Any, Op.operands, Call.operands, List.lookup_cons, List.lookup_nil, Nat.reduceBEq, Bool.false_eq_true, if_false, if_true, Act.eval, Array.getD_eq_getD_getElem?, List.getElem?_toArray, List.getElem?_cons_succ, List.getElem?_cons_zero, Option.getD_some, and_true, true_and, List.append_toArray, List.nil_append, List.cons_append, List.toList_toArray, Array.toList_append, Option.toArray, List.append_nil] at hA); (obtain ⟨hSc, hSf, hSs⟩ := hS.cells; go_simp; exact hK))); (try simp only [List.nil_append, List.cons_append]))
                (refine Qj.walkI_yesis (u := ?_) rfl (by simp) rfl rfl rfl (fun dn s w h => h) ?_ ?_; rotate_left; (focus (intro A w' dn hS hJ hdn hA K hK; (try simp only [List.map_cons, List.map_nil, Qj.knows, Qj.Is, Qj.Any, Op.operands, Call.operands, List.lookup_cons, List.lookup_nil, Nat.reduceBEq, Bool.false_eq_true, if_false, if_true, Act.eval, Array.getD_eq_getD_getElem?, List.getElem?_toArray, List.getElem?_cons_succ, List.getElem?_cons_zero, Option.getD_some, and_true, true_and, List.append_toArray, List.nil_append, List.cons_append, List.toList_toArray, Array.toList_append, Option.toArray, List.append_nil] at hA); first | (have q := (Mem.cellsT hJ 3 rfl).2.2.1; go_simp; exact hK) | (obtain ⟨hSc, hSf, hSs⟩ := hS.cells; go_simp; exact hK))); (try simp only [List.nil_append, List.cons_append]))
                iterate 2 (refine Qj.walkI_is (u := ?_) rfl (by simp) rfl (fun dn s w h => h) ?_ ?_; rotate_left; (focus (intro A w' dn hS hJ hdn hA K hK; (try simp only [List.map_cons, List.map_nil, Qj.knows, Qj.Is, Qj.Any, Op.operands, Call.operands, List.lookup_cons, List.lookup_nil, Nat.reduceBEq, Bool.false_eq_true, if_false, if_true, Act.eval, Array.getD_eq_getD_getElem?, List.getElem?_toArray, List.getElem?_cons_succ, List.getElem?_cons_zero, Option.getD_some, and_true, true_and, List.append_toArray, List.nil_append, List.cons_append, List.toList_toArray, Array.toList_append, Option.toArray, List.append_nil] at hA); (obtain ⟨hSc, hSf, hSs⟩ := hS.cells; go_simp; exact hK))); (try simp only [List.nil_append, List.cons_append]))
                (refine Qj.walkI_none 1000 (by rfl) (by exact Nat.le_of_ble_eq_true rfl) (by rfl) ?_ ?_; (focus (intro A w' dn hS hJ hd0 hdn hA K hK; (try simp only [List.map_cons, List.map_nil, Qj.knows, Qj.Is, Qj.Any, Op.operands, Call.operands, List.lookup_cons, List.lookup_nil, Nat.reduceBEq, Bool.false_eq_true, if_false, if_true, Act.eval, Array.getD_eq_getD_getElem?, List.getElem?_toArray, List.getElem?_cons_succ, List.getElem?_cons_zero, Option.getD_some, and_true, true_and, List.append_toArray, List.nil_append, List.cons_append, List.toList_toArray, Array.toList_append, Option.toArray, List.append_nil] at hA); (have hd8 : dn 8 = false := hd0; have i3 : Mem w H [own mono_NumR 3 106 (.slice oo out.length oc) out, mapN g1 b.length m, box g2 #[.int .i64 x.attr, .slice a1 x.inn.length c1, .bool true] 106, box g3 #[.int .i64 y.attr, .slice a2 y.inn.length c2, .bool y.abs] 106] H4 w' := (by have hJ2 := hJ; simp only [JN, hd8] at hJ2; exact hJ2); obtain ⟨q0, q1, q2, ql, qf⟩ := i3.cellsF 2 rfl; have i4 := i3.set 2 rfl 1 (.slice p4 s.length q4); go_simp; exact hK _ i4.ex (by simpa [JN, Qj.upd] using i4)))); (try simp only [List.nil_append, List.cons_append]))
                (refine Qj.walkI_nil ?_; simp only [List.nil_append, List.cons_append, Qj.fins, Qj.Is, Qj.Any, forall_eq, true_implies, Act.put, List.setIfInBounds_toArray, List.set_cons_zero, List.set_cons_succ, List.set_nil, forall_const])
                intro w5 hx5 hM5
                have hM6 : Mem w H [own mono_NumR 3 106 (.slice oo out.length oc) out, mapN g1 b.length m, box g2 #[.int .i64 x.attr, .slice p4 s.length q4, .bool true] 106, box g3 #[.int .i64 y.attr, .slice a2 y.inn.length c2, .bool y.abs] 106] H4 w5 := hM5
                obtain ⟨u0, u1, u2, ul, uf⟩ := hM6.cellsF 2 rfl
                clear hM5 hM4
                go_upto_region 17 with (fail)
                have hM7 := hM6.set 2 rfl 2 (.bool y.abs)
                simp only [List.set_cons_zero, List.set_cons_succ, List.setIfInBounds_toArray] at hM7
                have hE2 : NumR H4 [.int .i64 x.attr, .slice p4 s.length q4, .bool y.abs] ⟨x.attr, s, true && y.abs⟩ := ⟨_, _, rfl, hI, hrs⟩
                clear hM6 u0 u1 u2 ul uf
                generalize World.setCell _ _ _ = w6 at *
                obtain ⟨u0, u1, u2, ul⟩ := hM7.cellsT 2 rfl
                go_wp2_with (first | (at_delete; refine wpList_del_N 1 rfl _ _ 222 rfl 106 Tryz.underlying222 rfl hM7 rfl rfl hI ?cdel))
                case cdel =>
                  intro w7 hM8
                  try simp only [List.set_cons_zero, List.set_cons_succ] at hM8
                  clear hM7 u0 u1 u2 ul
                  obtain ⟨u0, u1, u2, ul⟩ := hM8.cellsT 2 rfl
                  have hS := lit_Nm hE2 w7
                  have hM7 := hM8.ext (Ext.new w7 (.cells ([.int .i64 x.attr, .slice p4 s.length q4, .bool y.abs] : List Value).toArray 106))
                  have hol := Jn.len hJ.out
                  go_wp2_with (first | (at_builtin; refine wpList_append_M 0 rfl _ _ 51 rfl Tryz.underlying51 infoNm rfl rfl rfl hM7 rfl hS one_NumR ?c3 ?c4 ?c5))
                  case c3 => simp only [List.length_singleton]; omega
                  case c4 => simp only [List.length_singleton]; omega
                  case c5 =>
                    intro v8 w8 hM8
                    try simp only [List.set_cons_zero] at hM8
                    replace hM8 := hM8.fst2
                    clear hM7 hS
                    go_wp2_with fail
                    go_roundw
                    case rel => exact ⟨j + 1, by omega, by go_num, _, _, _, HH, hJN, hM8⟩
                    case measure => simp [intOf]; omega
        · have hja : j = a.length := by omega
          subst hja
          have hJr := Lib.hid (Jr.start hJ.out haa.out)
          have h0 := Lib.hid (Jn.att0 hJ.out)
          have hol := Jn.len hJ.out
          have hHM := Lib.hid (fun (xs out2 : List Nm) (m' : Int → Option Nm) (h : Jr a b out out2 m') h2 h3 h4 => Jr.done (xs := xs) hJ.out h h2 haa.out hbb.out h3 h4)
          have hbI : Hid (∀ y ∈ b, I64 y.attr) := Lib.hid fun y hy => by
            obtain ⟨n, hn, rfl⟩ := List.mem_iff_getElem.1 hy
            obtain ⟨_, _, _, _, -, -, -, -, h5, -⟩ := NumsR.atH hb (hl2.trans hM.ple) n hn
            exact h5
          clear hJ
          go_wp2_with (first | (at_range; refine wpList_range_N 1 rfl _ 222 106 rfl Tryz.underlying222 rfl hM rfl ?cr))
          case cr =>
            intro w3 om oi cnt hM3 hRg hcb
            try simp only [List.set_cons_zero, List.set_cons_succ, List.cons_append, List.nil_append] at hM3
            generalize hgr : wr.heap.size = gr at *
            clear hM
            go_wp2_with fail
            go_loopw [9] (fun vo wx => ∃ out2 m2 oi2 cnt2, Hid (Jr a b out out2 m2) ∧ out2.length + cnt2 ≤ out.length + cnt ∧ RngN H2 g1 gr wx m2 cnt2 ∧ Mem w H [own mono_NumR 3 106 vo out2, raw g1 om, raw gr oi2] H2 wx) (fun _ wx => wx.rangeLeft g1 gr)
            case atStart => exact ⟨out, _, _, _, hJr, Nat.le_refl _, hRg, hM3⟩
            case round =>
              clear hM3 hRg hJr
              obtain ⟨out2, m2, oi2, cnt2, hJr, hcl, hRg, hM⟩ := hrel
              obtain ⟨o2, c2, rfl, -⟩ := hM.form 0 rfl
              go_wp2_with (at_next; refine wpList_next_N 2 rfl _ rfl rfl hM rfl hRg ?cd ?cm)
              case cd =>
                intro hnone
                have hS := Lib.hid (sortNm_c H2 _ out2 _ hM.ple (fun k hk => (hM.fr 0 _ rfl k hk).2) (hM.ok 0 _ rfl) (by omega))
                go_wp2_with fail
                refine hS.out.mono ?_
                rintro e w5 ⟨rfl, xs, hp, hpw, hO, hg⟩
                have hM5 := hM.put 0 rfl (c' := own mono_NumR 3 106 (.slice o2 out2.length c2) xs) hO (fun k hk => .inl hk) (hM.ex.grown hg fun k hk => (hM.fr 0 _ rfl k hk).1) fun k hk hne => hg.block k hk (fun e => hne e.symm)
                try simp only [List.set_cons_zero] at hM5
                have hjn := hHM.out xs out2 m2 hJr.out (fun y hy => hnone _ (hbI.out y hy)) hp hpw
                clear hS hM hO hg
                go_wp2_with fail
                go_ret2
                exact ⟨_, _, rfl, hM5.ex, by rw [hjn]; exact ⟨rfl, (hM5.repUp 0 rfl).mono mono_NumR (PLe.refl _)⟩⟩
              case cm =>
                intro x cs w4 oi4 cnt4 hmx hE hlt4 hM4 hRg4 hen
                try simp only [List.set_cons_zero, List.set_cons_succ] at hM4
                have hJ2 := Lib.hid (Jr.step hJr.out hbb.out h0.out hmx)
                have hcw := hRg.left
                clear hJr hM hRg
                obtain ⟨a1, c1, rfl, hI, hR⟩ := id hE
                go_upto_region 23 with (fail)
                have hM5 := hM4.new' #[.int .i64 x.attr, .slice a1 x.inn.length c1, .bool x.abs] 106 (n := w4.heap.size) rfl
                simp only [List.nil_append, List.cons_append] at hM5
                generalize hg5 : w4.heap.size = g5 at *
                generalize World.alloc _ _ = w5 at *
                obtain ⟨u0, u1, u2, ul⟩ := hM5.cellsT 3 rfl
                have hS := lit_Nm hE w5
                have hM7 := hM5.ext (Ext.new w5 (.cells ([.int .i64 x.attr, .slice a1 x.inn.length c1, .bool x.abs] : List Value).toArray 106))
                go_wp2_with (first | (at_builtin; refine wpList_append_M 0 rfl _ _ 51 rfl Tryz.underlying51 infoNm rfl rfl rfl hM7 rfl hS one_NumR ?c3 ?c4 ?c5))
                case c3 => simp only [List.length_singleton]; omega
                case c4 => simp only [List.length_singleton]; omega
                case c5 =>
                  intro v8 w8 hM8
                  try simp only [List.set_cons_zero] at hM8
                  have hM9 := hM8.pick [0, 1, 2] (by decide)
                  have hRg8 : RngN H2 g1 gr w8 _ cnt4 := hRg4.kept ((hM8.ok 1 _ rfl).trans (hM4.ok 1 _ rfl).symm) ((hM8.ok 2 _ rfl).trans (hM4.ok 2 _ rfl).symm)
                  have hl8 := hRg8.left
                  clear hM7 hS hM5
                  go_wp2_with fail
                  go_roundw
                  case rel => exact ⟨_, _, _, _, hJ2, by simp only [List.length_append, List.length_singleton]; omega, hRg8, hM9⟩
                  case measure => rw [hcw, hl8]; exact hlt4
def LsR {α : Type} (E : PH → List Value → α → Prop) (sz : Nat) (h : PH) (cs : List Value) (xs : List α) : Prop := ∃ v, cs = [v] ∧ SliceRep E sz h v xs
theorem mono_LsR {α : Type} {E : PH → List Value → α → Prop} (hm : Mono E) (sz : Nat) : Mono (LsR E sz) := by
  rintro h h' cs x hl ⟨v, rfl, h1⟩
  exact ⟨v, rfl, h1.mono hm hl⟩
theorem LsR.at {α : Type} {E : PH → List Value → α → Prop} {sz : Nat} {H : PH} {w : World} {a : Option Addr} {n cap : Nat} {xss : List (List α)} (hr : SliceRep (LsR E sz) 1 H (.slice a n cap) xss) (hl : PLe H (ph w)) (k : Nat) (hk : k < xss.length) :
    ∃ b o a4 c4, a = some ⟨b, o, none⟩ ∧ w.cell? ⟨b, o + k, none⟩ = some (.slice a4 xss[k].length c4) ∧ SliceRep E sz H (.slice a4 xss[k].length c4) xss[k] ∧ b < w.heap.size := by
  obtain ⟨b, o, cs, h1, h2, h3, v, rfl, h4⟩ := hr.get k hk
  obtain ⟨a4, c4, rfl, -, h4⟩ := h4.form
  have := cellAt_mono hl (h3 0 (by omega))
  rw [← cell_ph] at this
  exact ⟨b, o, a4, c4, h1, by simpa using this, h4, cell_lt (by simpa using this)⟩
def sumA {α : Type} (xss : List (List α)) : Nat := sumN List.length xss
theorem sumA_flat {α : Type} : ∀ xss : List (List α), sumA xss = xss.flatten.length
  | [] => rfl
  | x :: xs => by unfold sumA; rw [sumN, List.flatten_cons, List.length_append]; have := sumA_flat xs; unfold sumA at this; omega
theorem run_append_makeFo (ty : TypeId) (n : Nat) (w : World) (h0 : 0 < n) (hn : n ≤ 1000000) :
    (Builtin.append_ #[28, 3] ty #[.slice none 0 0, .int .i64 (n : Int)]).run Tryz.prog w =
      .ok (.slice (some ⟨w.heap.size, 0, none⟩) n (grownCap w n 0 30)) (w.drew.alloc (.cells (Builtin.zeroCells (zeroFv : Value).cells n ++ Builtin.zeroCells (zeroFv : Value).cells (grownCap w n 0 30 - n)) 30)) := by
  obtain ⟨i, hi, hz, hs, hb⟩ := info_parts infoFm
  have h1 : n ≠ 0 := by omega
  have h2 : IntKind.i64.wrap (n : Int) = n := by rw [IntKind.wrap_i64]; omega
  have h3 : ¬ ((n : Int) < 0) := by omega
  have h4 : ¬ (281474976710656 < (n : Int) * 64) := by omega
  have h5 : ¬ (281474976710656 < Builtin.nextslicecap n 0 * 64) := by rw [nextslicecap_zero h0]; omega
  have h6 : ¬ (9223372036854775807 < (n : Int)) := by omega
  have h7 : ¬ (n * 4 = 0) := by omega
  simp [Builtin.append_, run_underlying Tryz.underlying28, run_underlying Tryz.underlying3, sizeOf, typeInfo, zeroValue, hi, hz, hs, hb, h1, h2, h3, h4, h5, h6, h7, Question.forced, newRow, grownCap, asInt, asIntOf, Builtin.firstCells]
theorem wpList_append_makeFo {w : World} {ops : Array Oper} {rest : List Oper} {o : Oper} {a : Act} {Q : Exit → Act → World → Prop} (hgd : o.guard = none) (s x : Operand)
    (ho : o.op = .call { callee := .builtin .append, args := #[s, x], argTypes := #[28, 3] }) {n : Nat} (hs : a.eval s = .slice none 0 0) (hx : a.eval x = .int .i64 n) (h0 : 0 < n) (hn : n ≤ 1000000)
    (h : ∀ (cap : Nat) (cur : Array Value), n ≤ cap → cap ≤ maxLen → cur.size = cap * 4 → wpList Tryz.prog ops Q rest (a.put o.dst (.slice (some ⟨w.heap.size, 0, none⟩) n cap)) (w.drew.alloc (.cells cur 30))) :
    wpList Tryz.prog ops Q (o :: rest) a w := by
  have hr := run_append_makeFo o.type n w h0 hn
  refine wpList_plain hgd fun _ hK => ?_
  unfold Oper.wp execOp
  simp only [ho, resolve, invoke, builtin, Sem.run_bind, Sem.run_pure, Result.andThen_ok, List.map_toArray, List.map_cons, List.map_nil, hs, hx, hr]
  have h1 := grownCap_ge w n 0 30
  refine hK _ _ (h _ _ h1 (grownCap_le_maxLen w n 0 _ (by unfold maxLen; omega)) ?_)
  have e : (zeroFv : Value).cells.size = 4 := rfl
  rw [Array.size_append, size_zeroCells, size_zeroCells, e, ← Nat.add_mul, Nat.add_sub_cancel' h1]
set_option maxRecDepth 100000 in
theorem growFo (n : Nat) (w : World) (hn : n ≤ 1000000) : Calls Tryz.prog 179 #[.slice none 0 0, .int .i64 n] w fun e w' => ∃ v, e = .returned v ∧ Ext w w' ∧ OwnS w.heap.size noH w' FmR 4 30 v [] := by
  by_cases h0 : 0 < n
  · have b1 : decide ((n : Int) < 0) = false := by simp
    have b2 : decide (0 < n) = true := by simpa using h0
    go_enter Tryz.func179, Tryz.ntmps179
    go_wp2_with (at_builtin; refine wpList_append_makeFo rfl _ _ rfl rfl rfl h0 hn ?_; intro cap cur h1 h2 h3)
    go_ret
    exact ⟨_, rfl, xE, .inr ⟨w.heap.size, cap, cur, rfl, Nat.le_refl _, rfl, Own.new w.drew _ _, Nat.zero_le _, h2, h3, rfl⟩⟩
  · obtain rfl : n = 0 := by omega
    go_enter Tryz.func179, Tryz.ntmps179
    go_wp2_with fail
    go_ret
    exact ⟨_, rfl, xE, OwnS.nil _ _ _ _ _ _⟩
set_option maxRecDepth 100000 in
set_option maxHeartbeats 1000000 in
theorem concatFo {w0 : World} {H0 H : PH} {LB : List Chunk} (v : Value) (xss : List (List _)) (w : World) (hM : Mem w0 H0 LB H w) (hr : SliceRep (LsR FmR 4) 1 H v xss) (hs : xss.flatten.length ≤ 1000000) : Calls Tryz.prog 123 #[v] w fun e w' => ∃ v, e = .returned v ∧ ∃ H2, PLe H H2 ∧ Mem w0 H0 (own mono_FmR 4 30 v xss.flatten :: LB) H2 w' := by
  obtain ⟨a, c, rfl, hlen, hr⟩ := hr.form
  have hss : sumA xss ≤ 1000000 := by rw [sumA_flat]; exact hs
  replace hs := Lib.hid hs
  have hl := hM.ple
  go_enter Tryz.func123, Tryz.ntmps123
  go_wp2_with fail
  go_loopw [3, 11] (fun s i wr => ∃ k : Nat, k ≤ xss.length ∧ i = .int .i64 k ∧ s = .int .i64 (sumA (xss.take k)) ∧ Ext w wr) (fun _ i _ => xss.length - (intOf i).toNat)
  case atStart => exact ⟨0, Nat.zero_le _, rfl, rfl, xE⟩
  case round =>
    obtain ⟨k, hk, rfl, rfl, hx⟩ := hrel
    by_cases hlt : k < xss.length
    · obtain ⟨b, o, a4, c4, rfl, h0, -, hbl⟩ := LsR.at hr (hl.trans hx.ple) k hlt
      have hst := sumN_take List.length xss k hlt
      have hst2 := sumN_take_le List.length xss (k + 1)
      change sumA (xss.take (k + 1)) = sumA (xss.take k) + xss[k].length at hst
      change sumA (xss.take (k + 1)) ≤ sumA xss at hst2
      have h1 : (sumA (xss.take k) : Int) + xss[k].length ≤ 1000000 := by omega
      replace hst := Lib.hid hst
      generalize sumA (xss.take k) = s at *
      generalize xss[k].length = n at *
      have b1 : decide ((s : Int) + (n : Int) < 0) = false := by simp; omega
      clear hr
      go_wp2_with fail
      go_roundw
      case rel => exact ⟨k + 1, by omega, by go_num, by rw [hst.out]; go_num, xE⟩
      case measure => simp [intOf]; omega
    · obtain rfl : k = xss.length := by omega
      rw [List.take_length]
      go_wp2_with fail
      refine (growFo (sumA xss) _ (by omega)).mono ?_
      rintro e w1 ⟨g, rfl, hx1, ho⟩
      have hM0 := (hM.ext hx).take hx1 ho mono_FmR (noH_le _)
      obtain ⟨H2, hl2, -, hM⟩ := hM0
      replace hM := hM.front
      clear ho hx1
      go_wp2_with fail
      go_loopw [6, 27] (fun g i wr => ∃ k : Nat, k ≤ xss.length ∧ i = .int .i64 k ∧ Mem w0 H0 (own mono_FmR 4 30 g (xss.take k).flatten :: LB) H2 wr) (fun _ i _ => xss.length - (intOf i).toNat)
      case atStart => exact ⟨0, Nat.zero_le _, rfl, hM⟩
      case round =>
        obtain ⟨k, hk, rfl, hM⟩ := hrel
        by_cases hlt : k < xss.length
        · obtain ⟨b, o, a4, c4, rfl, h0, hR, hbl⟩ := LsR.at hr (hl2.trans hM.ple) k hlt
          obtain ⟨ga, gc, rfl, -⟩ := hM.form 0 rfl
          have hfl : (xss.take (k + 1)).flatten = (xss.take k).flatten ++ xss[k] := by rw [List.take_succ_eq_append_getElem hlt, List.flatten_append]; simp
          have hle : (xss.take (k + 1)).flatten.length ≤ 1000000 := by
            rw [← sumA_flat]
            have := sumN_take_le List.length xss (k + 1)
            unfold sumA at *; omega
          rw [hfl, List.length_append] at hle
          have hS : Src wr H2 FmR 4 (.slice a4 xss[k].length c4) xss[k] := Src.ofRep (hR.mono mono_FmR hl2) hM.ple
          replace hfl := Lib.hid hfl
          generalize (xss.take k).flatten = pre at *
          generalize xss[k] = xs at *
          go_wp2_with (at_builtin; refine wpList_append_M 0 rfl _ _ 28 rfl Tryz.underlying28 infoFm rfl rfl rfl (hM) rfl (hS) one_FmR ?c3 ?c4 ?c5)
          case c3 => omega
          case c4 => omega
          case c5 =>
            intro v' w3 hM4
            try simp only [List.set_cons_succ, List.set_cons_zero] at hM4
            rw [← hfl.out] at hM4
            go_wp2_with fail
            go_roundw
            case rel => exact ⟨k + 1, by omega, by go_num, hM4⟩
            case measure => simp [intOf]; omega
        · rw [List.take_of_length_le (by omega)] at hM
          go_wp2_with fail
          go_ret
          exact ⟨_, rfl, H2, hl2, hM⟩
theorem run_append_makeIn (ty : TypeId) (n : Nat) (w : World) (h0 : 0 < n) (hn : n ≤ 1000000) :
    (Builtin.append_ #[22, 3] ty #[.slice none 0 0, .int .i64 (n : Int)]).run Tryz.prog w =
      .ok (.slice (some ⟨w.heap.size, 0, none⟩) n (grownCap w n 0 3)) (w.drew.alloc (.cells (Builtin.zeroCells (.int .i64 0 : Value).cells n ++ Builtin.zeroCells (.int .i64 0 : Value).cells (grownCap w n 0 3 - n)) 3)) := by
  obtain ⟨i, hi, hz, hs, hb⟩ := info_parts infoIn
  have h1 : n ≠ 0 := by omega
  have h2 : IntKind.i64.wrap (n : Int) = n := by rw [IntKind.wrap_i64]; omega
  have h3 : ¬ ((n : Int) < 0) := by omega
  have h4 : ¬ (281474976710656 < (n : Int) * 8) := by omega
  have h5 : ¬ (281474976710656 < Builtin.nextslicecap n 0 * 8) := by rw [nextslicecap_zero h0]; omega
  have h6 : ¬ (9223372036854775807 < (n : Int)) := by omega
  have h7 : ¬ (n * 1 = 0) := by omega
  simp [Builtin.append_, run_underlying Tryz.underlying22, run_underlying Tryz.underlying3, sizeOf, typeInfo, zeroValue, hi, hz, hs, hb, h1, h2, h3, h4, h5, h6, h7, Question.forced, newRow, grownCap, asInt, asIntOf, Builtin.firstCells]
theorem wpList_append_makeIn {w : World} {ops : Array Oper} {rest : List Oper} {o : Oper} {a : Act} {Q : Exit → Act → World → Prop} (hgd : o.guard = none) (s x : Operand)
    (ho : o.op = .call { callee := .builtin .append, args := #[s, x], argTypes := #[22, 3] }) {n : Nat} (hs : a.eval s = .slice none 0 0) (hx : a.eval x = .int .i64 n) (h0 : 0 < n) (hn : n ≤ 1000000)
    (h : ∀ (cap : Nat) (cur : Array Value), n ≤ cap → cap ≤ maxLen → cur.size = cap * 1 → wpList Tryz.prog ops Q rest (a.put o.dst (.slice (some ⟨w.heap.size, 0, none⟩) n cap)) (w.drew.alloc (.cells cur 3))) :
    wpList Tryz.prog ops Q (o :: rest) a w := by
  have hr := run_append_makeIn o.type n w h0 hn
  refine wpList_plain hgd fun _ hK => ?_
  unfold Oper.wp execOp
  simp only [ho, resolve, invoke, builtin, Sem.run_bind, Sem.run_pure, Result.andThen_ok, List.map_toArray, List.map_cons, List.map_nil, hs, hx, hr]
  have h1 := grownCap_ge w n 0 3
  refine hK _ _ (h _ _ h1 (grownCap_le_maxLen w n 0 _ (by unfold maxLen; omega)) ?_)
  have e : (.int .i64 0 : Value).cells.size = 1 := rfl
  rw [Array.size_append, size_zeroCells, size_zeroCells, e, ← Nat.add_mul, Nat.add_sub_cancel' h1]
set_option maxRecDepth 100000 in
theorem growIn (n : Nat) (w : World) (hn : n ≤ 1000000) : Calls Tryz.prog 233 #[.slice none 0 0, .int .i64 n] w fun e w' => ∃ v, e = .returned v ∧ Ext w w' ∧ OwnS w.heap.size noH w' IntR 1 3 v [] := by
  by_cases h0 : 0 < n
  · have b1 : decide ((n : Int) < 0) = false := by simp
    have b2 : decide (0 < n) = true := by simpa using h0
    go_enter Tryz.func233, Tryz.ntmps233
    go_wp2_with (at_builtin; refine wpList_append_makeIn rfl _ _ rfl rfl rfl h0 hn ?_; intro cap cur h1 h2 h3)
    go_ret
    exact ⟨_, rfl, xE, .inr ⟨w.heap.size, cap, cur, rfl, Nat.le_refl _, rfl, Own.new w.drew _ _, Nat.zero_le _, h2, h3, rfl⟩⟩
  · obtain rfl : n = 0 := by omega
    go_enter Tryz.func233, Tryz.ntmps233
    go_wp2_with fail
    go_ret
    exact ⟨_, rfl, xE, OwnS.nil _ _ _ _ _ _⟩
set_option maxRecDepth 100000 in
set_option maxHeartbeats 1000000 in
theorem concatIn {w0 : World} {H0 H : PH} {LB : List Chunk} (v : Value) (xss : List (List _)) (w : World) (hM : Mem w0 H0 LB H w) (hr : SliceRep (LsR IntR 1) 1 H v xss) (hs : xss.flatten.length ≤ 1000000) : Calls Tryz.prog 200 #[v] w fun e w' => ∃ v, e = .returned v ∧ ∃ H2, PLe H H2 ∧ Mem w0 H0 (own mono_IntR 1 3 v xss.flatten :: LB) H2 w' := by
  obtain ⟨a, c, rfl, hlen, hr⟩ := hr.form
  have hss : sumA xss ≤ 1000000 := by rw [sumA_flat]; exact hs
  replace hs := Lib.hid hs
  have hl := hM.ple
  go_enter Tryz.func200, Tryz.ntmps200
  go_wp2_with fail
  go_loopw [3, 11] (fun s i wr => ∃ k : Nat, k ≤ xss.length ∧ i = .int .i64 k ∧ s = .int .i64 (sumA (xss.take k)) ∧ Ext w wr) (fun _ i _ => xss.length - (intOf i).toNat)
  case atStart => exact ⟨0, Nat.zero_le _, rfl, rfl, xE⟩
  case round =>
    obtain ⟨k, hk, rfl, rfl, hx⟩ := hrel
    by_cases hlt : k < xss.length
    · obtain ⟨b, o, a4, c4, rfl, h0, -, hbl⟩ := LsR.at hr (hl.trans hx.ple) k hlt
      have hst := sumN_take List.length xss k hlt
      have hst2 := sumN_take_le List.length xss (k + 1)
      change sumA (xss.take (k + 1)) = sumA (xss.take k) + xss[k].length at hst
      change sumA (xss.take (k + 1)) ≤ sumA xss at hst2
      have h1 : (sumA (xss.take k) : Int) + xss[k].length ≤ 1000000 := by omega
      replace hst := Lib.hid hst
      generalize sumA (xss.take k) = s at *
      generalize xss[k].length = n at *
      have b1 : decide ((s : Int) + (n : Int) < 0) = false := by simp; omega
      clear hr
      go_wp2_with fail
      go_roundw
      case rel => exact ⟨k + 1, by omega, by go_num, by rw [hst.out]; go_num, xE⟩
      case measure => simp [intOf]; omega
    · obtain rfl : k = xss.length := by omega
      rw [List.take_length]
      go_wp2_with fail
      refine (growIn (sumA xss) _ (by omega)).mono ?_
      rintro e w1 ⟨g, rfl, hx1, ho⟩
      have hM0 := (hM.ext hx).take hx1 ho mono_IntR (noH_le _)
      obtain ⟨H2, hl2, -, hM⟩ := hM0
      replace hM := hM.front
      clear ho hx1
      go_wp2_with fail
      go_loopw [6, 27] (fun g i wr => ∃ k : Nat, k ≤ xss.length ∧ i = .int .i64 k ∧ Mem w0 H0 (own mono_IntR 1 3 g (xss.take k).flatten :: LB) H2 wr) (fun _ i _ => xss.length - (intOf i).toNat)
      case atStart => exact ⟨0, Nat.zero_le _, rfl, hM⟩
      case round =>
        obtain ⟨k, hk, rfl, hM⟩ := hrel
        by_cases hlt : k < xss.length
        · obtain ⟨b, o, a4, c4, rfl, h0, hR, hbl⟩ := LsR.at hr (hl2.trans hM.ple) k hlt
          obtain ⟨ga, gc, rfl, -⟩ := hM.form 0 rfl
          have hfl : (xss.take (k + 1)).flatten = (xss.take k).flatten ++ xss[k] := by rw [List.take_succ_eq_append_getElem hlt, List.flatten_append]; simp
          have hle : (xss.take (k + 1)).flatten.length ≤ 1000000 := by
            rw [← sumA_flat]
            have := sumN_take_le List.length xss (k + 1)
            unfold sumA at *; omega
          rw [hfl, List.length_append] at hle
          have hS : Src wr H2 IntR 1 (.slice a4 xss[k].length c4) xss[k] := Src.ofRep (hR.mono mono_IntR hl2) hM.ple
          replace hfl := Lib.hid hfl
          generalize (xss.take k).flatten = pre at *
          generalize xss[k] = xs at *
          go_wp2_with (at_builtin; refine wpList_append_M 0 rfl _ _ 22 rfl Tryz.underlying22 infoIn rfl rfl rfl (hM) rfl (hS) one_IntR ?c3 ?c4 ?c5)
          case c3 => omega
          case c4 => omega
          case c5 =>
            intro v' w3 hM4
            try simp only [List.set_cons_succ, List.set_cons_zero] at hM4
            rw [← hfl.out] at hM4
            go_wp2_with fail
            go_roundw
            case rel => exact ⟨k + 1, by omega, by go_num, hM4⟩
            case measure => simp [intOf]; omega
        · rw [List.take_of_length_le (by omega)] at hM
          go_wp2_with fail
          go_ret
          exact ⟨_, rfl, H2, hl2, hM⟩
set_option maxRecDepth 100000 in
set_option maxHeartbeats 4000000 in
theorem compactFG_c (gb : Nat) (v : Value) (xs : List Fm) (w0 w : World) (H0 H : PH) (LB : List Chunk) (hM : Mem w0 H0 (ownFm v xs :: LB) H w) (hlen : xs.length ≤ 1000000)
    (hf : ∀ x y cs ds W v' ys, Mem w0 H0 (ownFm v' ys :: LB) H W → FmR (ph W) cs x → FmR (ph W) ds y → Calls Tryz.prog 207 #[.agg cs.toArray, .agg ds.toArray, .pointer (some ⟨gb, 0, none⟩)] W (RetV W (.bool (x == y)))) :
    Calls Tryz.prog 206 #[v, .func (.func 207) #[] #[.pointer (some ⟨gb, 0, none⟩)]] w (OwnFP w0 H0 LB H (fdd xs)) := by
  obtain ⟨a, c, rfl, -⟩ := hM.form 0 rfl
  replace hf := Lib.hid hf
  by_cases h2 : xs.length < 2
  · have hd : Hid (fdd xs = xs) := by
      show _ = _
      match xs, h2 with
      | [], _ => rfl
      | [x], _ => rfl
    have h2' : (xs.length : Int) < 2 := by omega
    go_enter Tryz.func206, Tryz.ntmps206
    go_wp2_with fail
    go_ret
    exact ⟨_, rfl, by rw [hd.out]; exact hM⟩
  · obtain ⟨N, hN⟩ : ∃ N, xs.length = N := ⟨_, rfl⟩
    have hN2 : 2 ≤ N := by omega
    have hN6 : N ≤ 1000000 := by omega
    have hst : Hid (fdd (xs.take 1) = xs.take 1) := by
      show _ = _
      match xs with
      | [] => rfl
      | x :: r => rfl
    have hall : Hid (xs.take N = xs) := by show _ = _; rw [← hN, List.take_length]
    rw [hN] at hM
    simp only [hN]
    replace hN := Lib.hid hN
    clear h2 hlen
    go_enter Tryz.func206, Tryz.ntmps206
    go_wp2_with fail
    go_loopw [5] (fun vi wr => ∃ m : Nat, m + 1 ≤ N ∧ vi = .int .i64 ((m : Int) + 1) ∧ Hid (fdd (xs.take (m + 1)) = xs.take (m + 1)) ∧ Ext w wr) (fun vi _ => N - (intOf vi).toNat)
    case atStart => exact ⟨0, by omega, rfl, hst, Ext.rfl' _⟩
    case round =>
      clear hst
      obtain ⟨m, hm, rfl, hd, hxr⟩ := hrel
      have hMr := hM.ext hxr
      by_cases hlt : m + 1 < N
      · have hlx : m + 1 < xs.length := by rw [hN.out]; exact hlt
        obtain ⟨g, p3, q3, p4, q4, rfl, hg, gc1, hI1⟩ := fmsM_row hMr (List.getElem?_eq_getElem hlx)
        obtain ⟨g', r3, s3, r4, s4, e, -, gc0, hI0⟩ := fmsM_row hMr (List.getElem?_eq_getElem (show m < xs.length by omega))
        cases e
        have hja : decide (m + 1 < N) = true := by simpa using hlt
        have hgo := fun (h : (xs[m]'(by omega)) ≠ xs[m + 1]) => fdd_go (xs := xs) (i := m + 1) (Nat.succ_pos m) hlx hd.out h
        have hcs := fun (h : (xs[m]'(by omega)) = xs[m + 1]) => FCmpAt.start (xs := xs) (i := m + 1) (Nat.succ_pos m) hlx hd.out h
        have hr3 := fun W (hW : Mem w0 H0 (ownFm (.slice (some ⟨g, 0, none⟩) N c) xs :: LB) H W) => hf.out xs[m + 1] xs[m] _ _ W _ _ hW (mono_FmR _ _ _ _ hW.ple hI1) (mono_FmR _ _ _ _ hW.ple hI0)
        generalize xs[m + 1] = x1 at *
        generalize xs[m] = x0 at *
        obtain ⟨qz, hqz⟩ : ∃ q, (x1 == x0) = q := ⟨_, rfl⟩
        simp only [hqz] at hr3
        replace hqz := Lib.hid hqz
        replace gc1 := Lib.hid gc1
        replace gc0 := Lib.hid gc0
        replace hgo := Lib.hid hgo
        replace hcs := Lib.hid hcs
        replace hr3 := Lib.hid hr3
        have hlti : ((m + 1 : Nat) : Int) < N := by omega
        have hmN : m < N := by omega
        clear hlx hI0 hI1




        have hwm : IntKind.i64.wrap ((m : Int) + 1 - 1) = (m : Int) := by rw [IntKind.wrap_i64]; omega
        have hwm3 : IntKind.i64.wrap (m : Int) = (m : Int) := by rw [IntKind.wrap_i64]; omega
        have hwm2 : IntKind.i64.wrap (((m + 1 : Nat) : Int) - 1) = (m : Int) := by rw [IntKind.wrap_i64]; omega
        go_upto_region 6 with (fail)
        (refine wp_region_I 11 (by kernel_rfl) (by kernel_rfl) ?_; simp only [List.toList_toArray, List.take_succ_cons, List.take_zero, List.drop_succ_cons, List.drop_zero])
        iterate 4 (refine wiA rfl (by simp) rfl ?_; (try simp only [List.nil_append, List.cons_append]))
        (refine walkI_is (u := ?_) rfl (by simp) rfl ?_ ?_; rotate_left; (focus (intro A w' hS hA K hK; (simp only [List.map_cons, List.map_nil, knows, Is, Op.operands, Call.operands, List.lookup_cons, List.lookup_nil, Nat.reduceBEq, Bool.false_eq_true, if_false, if_true, Act.eval, Array.getD_eq_getD_getElem?, List.getElem?_toArray, List.getElem?_cons_succ, List.getElem?_cons_zero, Option.getD_some, and_true, true_and, List.append_toArray, List.nil_append, List.cons_append, List.toList_toArray, Array.toList_append, Option.toArray, List.append_nil] at hA); first | (refine oper_load_mid 30 (.tmp 21) rfl g ((m + 1) * 4) (by simpa [Act.eval] using hA) (fmC x1 p3 q3 p4 q4) _ (fun j u h => hS.cell1 (gc1.out j u h)) Tryz.underlying30 rfl (by kernel_rfl) ?_; exact hK _ (Ext.rfl' _)) | (obtain ⟨hSc, hSf, hSs⟩ := hS.cells; go_simp; exact hK _ xN))); (try simp only [List.nil_append, List.cons_append]))
        iterate 4 (refine wiA rfl (by simp) rfl ?_; (try simp only [List.nil_append, List.cons_append]))
        (refine walkI_is (u := ?_) rfl (by simp) rfl ?_ ?_; rotate_left; (focus (intro A w' hS hA K hK; (simp only [List.map_cons, List.map_nil, knows, Is, Op.operands, Call.operands, List.lookup_cons, List.lookup_nil, Nat.reduceBEq, Bool.false_eq_true, if_false, if_true, Act.eval, Array.getD_eq_getD_getElem?, List.getElem?_toArray, List.getElem?_cons_succ, List.getElem?_cons_zero, Option.getD_some, and_true, true_and, List.append_toArray, List.nil_append, List.cons_append, List.toList_toArray, Array.toList_append, Option.toArray, List.append_nil] at hA); first | (refine oper_load_mid 30 (.tmp 26) rfl g (m * 4) (by simpa [Act.eval] using hA) (fmC x0 r3 s3 r4 s4) _ (fun j u h => hS.cell1 (gc0.out j u h)) Tryz.underlying30 rfl (by kernel_rfl) ?_; exact hK _ (Ext.rfl' _)) | (obtain ⟨hSc, hSf, hSs⟩ := hS.cells; go_simp; exact hK _ xN))); (try simp only [List.nil_append, List.cons_append]))
        (refine walkI_is (u := ?_) rfl (by simp) rfl ?_ ?_; rotate_left; (focus (intro A w' hS hA K hK; (simp only [List.map_cons, List.map_nil, knows, Is, Op.operands, Call.operands, List.lookup_cons, List.lookup_nil, Nat.reduceBEq, Bool.false_eq_true, if_false, if_true, Act.eval, Array.getD_eq_getD_getElem?, List.getElem?_toArray, List.getElem?_cons_succ, List.getElem?_cons_zero, Option.getD_some, and_true, true_and, List.append_toArray, List.nil_append, List.cons_append, List.toList_toArray, Array.toList_append, Option.toArray, List.append_nil] at hA); first | (go_simp; refine RetV_at (hr3.out w' (hMr.ext hS)) ?_; intro w6 hx6; exact hK _ hx6) | (obtain ⟨hSc, hSf, hSs⟩ := hS.cells; go_simp; exact hK _ xN))); (try simp only [List.nil_append, List.cons_append]))
        (refine walkI_nil ?_; simp only [List.nil_append, List.cons_append, fins, Is, forall_eq, Act.put, List.setIfInBounds_toArray, List.set_cons_zero, List.set_cons_succ])
        intro w3 hx3
        cases qz with
        | true =>
          have hday : x0 = x1 := by have := hqz.out; rw [beq_iff_eq] at this; exact this.symm
          have hC := Lib.hid (hcs.out hday)
          have hM3 := hMr.ext hx3
          have hxl : Hid (m + 1 + 1 ≤ xs.length) := Lib.hid (by rw [hN.out]; omega)
          have hcap0 : N ≤ c := by
            obtain ⟨cur, -, -, h3, -⟩ := hM3.cur 0 rfl
            rw [hN.out] at h3; exact h3
          clear hday hcs hgo hd hall hMr gc0 gc1 hr3
          go_wp2_with fail
          have hlt' := Lib.hid hlt
          replace hlti := Lib.hid hlti
          replace hja := Lib.hid hja
          clear hlt
          generalize decide ((N : Int) < 2) = z10
          generalize decide ((m : Int) + 1 < (N : Int)) = z15
          generalize hv12 : Value.int IntKind.i64 ((m : Int) + 1) = v12
          replace hv12 := Lib.hid hv12
          go_loopw [5, 7] (fun vi vk wr2 => ∃ (i k : Nat) (ys : List Fm), vi = .int .i64 (i : Int) ∧ vk = .int .i64 ((k : Int) + 1) ∧ m + 1 + (k + 1) ≤ N ∧ i < m + 1 + (k + 1) ∧ Hid (FCmpAt xs ys i (m + 1 + (k + 1))) ∧ Mem w0 H0 (ownFm (.slice (some ⟨g, 0, none⟩) N c) ys :: LB) H wr2) (fun _ vk _ => N - (intOf vk).toNat)
          case atStart => exact ⟨m + 1, 0, xs, by rw [← hv12.out]; go_num, by go_num, by omega, by omega, hC, hM3⟩
          case round =>
            clear hM3 hC
            obtain ⟨i, k, ys, rfl, rfl, hkN, hik, hD, hM⟩ := hrel
            have hyl : Hid (ys.length = N) := by show _ = _; rw [hD.out.1]; exact hN.out
            by_cases hlt2 : k + 1 < N - (m + 1)
            · have hjx : m + 1 + (k + 1) < xs.length := by rw [hN.out]; omega
              obtain ⟨hy1, hy0⟩ := hD.out.at hjx
              obtain ⟨g1, p3, q3, p4, q4, e, hg1, gc1, hI2⟩ := fmsM_row hM hy1
              cases e
              obtain ⟨g1, r3, s3, r4, s4, e, -, gc0, hI0⟩ := fmsM_row hM hy0
              cases e
              have hsk := fun (h : (xs[m + 1 + (k + 1) - 1]'(by omega)) = xs[m + 1 + (k + 1)]) => hD.out.skip hjx h
              have hkp := fun (h : (xs[m + 1 + (k + 1) - 1]'(by omega)) ≠ xs[m + 1 + (k + 1)]) => hD.out.keep hjx h
              have hr3 := fun W (hW : Mem w0 H0 (ownFm (.slice (some ⟨g, 0, none⟩) N c) ys :: LB) H W) => hf.out xs[m + 1 + (k + 1)] (xs[m + 1 + (k + 1) - 1]'(by omega)) _ _ W _ _ hW (mono_FmR _ _ _ _ hW.ple hI2) (mono_FmR _ _ _ _ hW.ple hI0)
              generalize xs[m + 1 + (k + 1)] = z1 at *
              generalize (xs[m + 1 + (k + 1) - 1]'(by omega)) = z0 at *
              obtain ⟨q, hq⟩ : ∃ q, (z1 == z0) = q := ⟨_, rfl⟩
              simp only [hq] at hr3
              replace hq := Lib.hid hq
              have gd1 : Hid (∀ j u, (fmC z1 p3 q3 p4 q4)[j]? = some u → wr.cell? ⟨g, (m + 1) * 4 + (k + 1) * 4 + j, none⟩ = some u) := Lib.hid fun j u h => by
                have := gc1 j u h
                rwa [show (m + 1 + (k + 1)) * 4 + j = (m + 1) * 4 + (k + 1) * 4 + j by omega] at this
              have gd0 : Hid (∀ j u, (fmC z0 r3 s3 r4 s4)[j]? = some u → wr.cell? ⟨g, (m + 1) * 4 + k * 4 + j, none⟩ = some u) := Lib.hid fun j u h => by
                have := gc0 j u h
                rwa [show (m + 1 + (k + 1) - 1) * 4 + j = (m + 1) * 4 + k * 4 + j by omega] at this
              replace hr3 := Lib.hid hr3
              replace hsk := Lib.hid hsk
              replace hkp := Lib.hid hkp
              replace hy1 := Lib.hid hy1
              have hja2 : decide (k + 1 < N - (m + 1)) = true := by simpa using hlt2
              have hwk : IntKind.i64.wrap (k : Int) = (k : Int) := by rw [IntKind.wrap_i64]; omega
              have hiN : i < N := by omega
              have hkN2 : k < N - (m + 1) := by omega
              clear gc1 gc0 hy0 hjx hI0
              go_upto_region 11 with (fail)
              (refine wp_region_I 12 (by kernel_rfl) (by kernel_rfl) ?_; simp only [List.toList_toArray, List.take_succ_cons, List.take_zero, List.drop_succ_cons, List.drop_zero])
              iterate 4 (refine wiA rfl (by simp) rfl ?_; (try simp only [List.nil_append, List.cons_append]))
              (refine walkI_is (u := ?_) rfl (by simp) rfl ?_ ?_; rotate_left; (focus (intro A w' hS hA K hK; (simp only [List.map_cons, List.map_nil, knows, Is, Op.operands, Call.operands, List.lookup_cons, List.lookup_nil, Nat.reduceBEq, Bool.false_eq_true, if_false, if_true, Act.eval, Array.getD_eq_getD_getElem?, List.getElem?_toArray, List.getElem?_cons_succ, List.getElem?_cons_zero, Option.getD_some, and_true, true_and, List.append_toArray, List.nil_append, List.cons_append, List.toList_toArray, Array.toList_append, Option.toArray, List.append_nil] at hA); first | (refine oper_load_mid 30 (.tmp 41) rfl g ((m + 1) * 4 + (k + 1) * 4) (by simpa [Act.eval] using hA) (fmC z1 p3 q3 p4 q4) _ (fun j u h => hS.cell1 (gd1.out j u h)) Tryz.underlying30 rfl (by kernel_rfl) ?_; exact hK _ (Ext.rfl' _)) | (obtain ⟨hSc, hSf, hSs⟩ := hS.cells; go_simp; exact hK _ xN))); (try simp only [List.nil_append, List.cons_append]))
              iterate 4 (refine wiA rfl (by simp) rfl ?_; (try simp only [List.nil_append, List.cons_append]))
              (refine walkI_is (u := ?_) rfl (by simp) rfl ?_ ?_; rotate_left; (focus (intro A w' hS hA K hK; (simp only [List.map_cons, List.map_nil, knows, Is, Op.operands, Call.operands, List.lookup_cons, List.lookup_nil, Nat.reduceBEq, Bool.false_eq_true, if_false, if_true, Act.eval, Array.getD_eq_getD_getElem?, List.getElem?_toArray, List.getElem?_cons_succ, List.getElem?_cons_zero, Option.getD_some, and_true, true_and, List.append_toArray, List.nil_append, List.cons_append, List.toList_toArray, Array.toList_append, Option.toArray, List.append_nil] at hA); first | (refine oper_load_mid 30 (.tmp 46) rfl g ((m + 1) * 4 + k * 4) (by simpa [Act.eval] using hA) (fmC z0 r3 s3 r4 s4) _ (fun j u h => hS.cell1 (gd0.out j u h)) Tryz.underlying30 rfl (by kernel_rfl) ?_; exact hK _ (Ext.rfl' _)) | (obtain ⟨hSc, hSf, hSs⟩ := hS.cells; go_simp; exact hK _ xN))); (try simp only [List.nil_append, List.cons_append]))
              (refine walkI_is (u := ?_) rfl (by simp) rfl ?_ ?_; rotate_left; (focus (intro A w' hS hA K hK; (simp only [List.map_cons, List.map_nil, knows, Is, Op.operands, Call.operands, List.lookup_cons, List.lookup_nil, Nat.reduceBEq, Bool.false_eq_true, if_false, if_true, Act.eval, Array.getD_eq_getD_getElem?, List.getElem?_toArray, List.getElem?_cons_succ, List.getElem?_cons_zero, Option.getD_some, and_true, true_and, List.append_toArray, List.nil_append, List.cons_append, List.toList_toArray, Array.toList_append, Option.toArray, List.append_nil] at hA); first | (go_simp; refine RetV_at (hr3.out w' (hM.ext hS)) ?_; intro w6 hx6; exact hK _ hx6) | (obtain ⟨hSc, hSf, hSs⟩ := hS.cells; go_simp; exact hK _ xN))); (try simp only [List.nil_append, List.cons_append]))
              (refine wiA rfl (by simp) rfl ?_; (try simp only [List.nil_append, List.cons_append]))
              (refine walkI_nil ?_; simp only [List.nil_append, List.cons_append, fins, Is, forall_eq, Act.put, List.setIfInBounds_toArray, List.set_cons_zero, List.set_cons_succ])
              intro w7 hx7
              have hM7 := hM.ext hx7
              cases q with
              | true =>
                have hday2 : z0 = z1 := by have := hq.out; rw [beq_iff_eq] at this; exact this.symm
                have hD2 := Lib.hid (hsk.out hday2)
                clear hday2 hsk hkp
                go_wp2_with fail
                go_roundw
                case rel => exact ⟨i, k + 1, ys, by go_num, by go_num, by omega, by omega, hD2, hM7⟩
                case measure => simp [intOf]; omega
              | false =>
                have hday2 : ¬ z0 = z1 := by have := hq.out; rw [beq_eq_false_iff_ne] at this; exact fun e => this e.symm
                have hD2 := Lib.hid (hkp.out hday2)
                have gd7 : Hid (∀ j u, (fmC z1 p3 q3 p4 q4)[j]? = some u → w7.cell? ⟨g, (m + 1) * 4 + (k + 1) * 4 + j, none⟩ = some u) := Lib.hid fun j u h => hx7.cell1 (gd1.out j u h)
                have hiy : Hid (i < ys.length) := Lib.hid (by rw [hyl.out]; omega)
                have hia : decide (i < N) = true := by simpa using hiN
                clear hday2 hsk hkp gd1 gd0
                go_upto_region 12 with (fail)
                go_upto_region 13 with (first | (refine wpList_load_mid rfl 30 (.tmp 54) rfl g ((m + 1) * 4 + (k + 1) * 4) rfl (fmC z1 p3 q3 p4 q4) _ gd7.out Tryz.underlying30 rfl (by kernel_rfl) ?_) | (refine wpList_store_M (xs := ys) (n := N) (cap := c) (g := g) rfl 30 (.tmp 56) _ rfl i rfl (cs := fmC z1 p3 q3 p4 q4) rfl (x' := z1) hM7 0 rfl hiy.out hI2 rfl (one_fmC z1 p3 q3 p4 q4) (by kernel_rfl) ?c5))
                case c5 =>
                  intro w5 hM5
                  try simp only [List.set_cons_zero] at hM5
                  have hkN4 : Hid (m + 1 + (k + 1 + 1) ≤ N) := Lib.hid (by omega)
                  have hik4 : Hid (i + 1 < m + 1 + (k + 1 + 1)) := Lib.hid (by omega)
                  replace hN2 := Lib.hid hN2
                  replace hkN := Lib.hid hkN
                  replace hmN := Lib.hid hmN
                  replace hm := Lib.hid hm
                  go_wp2_with fail
                  go_roundw
                  case rel => exact ⟨i + 1, k + 1, ys.set i z1, by go_num, by go_num, hkN4.out, hik4.out, hD2, hM5⟩
                  case measure => simp [intOf]; omega
            · have hja2 : decide (k + 1 < N - (m + 1)) = false := by simpa using hlt2
              have hkN3 : m + 1 + (k + 1) = N := by omega
              have hdn : Hid (ys.take i = fdd xs) := by
                have h := hD.out
                rw [hkN3, ← hN.out] at h
                exact Lib.hid h.done
              have hil : Hid (i ≤ ys.length) := Lib.hid (by rw [hyl.out]; omega)
              have hiN : i < N := by omega
              have hcap : N ≤ c := by
                obtain ⟨cur, -, -, h3, -⟩ := hM.cur 0 rfl
                rw [hyl.out] at h3; exact h3
              clear hD hkN3
              go_upto_region 14 with (fail)
              go_upto_region 15 with (refine wpList_clear_M (xs := ys) (n := N) (cap := c) (g := g) rfl (.tmp 61) 28 rfl i rfl Tryz.underlying28 zeroFm1 rfl (by kernel_rfl) hM 0 rfl hil.out ?d5)
              case d5 =>
                intro w5 hM5
                try simp only [List.set_cons_zero] at hM5
                rw [hdn.out] at hM5
                go_wp2_with fail
                go_ret
                exact ⟨_, rfl, hM5⟩
        | false =>
          have hday : ¬ x0 = x1 := by have := hqz.out; rw [beq_eq_false_iff_ne] at this; exact fun e => this e.symm
          have hD := Lib.hid (hgo.out hday)
          clear hday hcs hgo
          go_wp2_with fail
          go_roundw
          case rel => exact ⟨m + 1, by omega, by go_num, hD, hxr.then hx3⟩
          case measure => simp [intOf]; omega
      · have hja : decide (m + 1 < N) = false := by simpa using hlt
        have hdd : Hid (fdd xs = xs) := by
          show _ = _
          have h := hd.out
          rw [show m + 1 = N by omega, hall.out] at h
          exact h
        have hlti : ¬ ((m + 1 : Nat) : Int) < N := by omega
        go_wp2_with fail
        go_ret
        exact ⟨_, rfl, by rw [hdd.out]; exact hMr⟩
end Go.Proofs.YtabajghokhfmhaaGreat
