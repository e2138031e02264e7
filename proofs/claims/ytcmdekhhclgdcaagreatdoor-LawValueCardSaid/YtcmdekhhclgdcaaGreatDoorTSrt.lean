/- sorting a row of one's own.; Mem across the steps of a range over a function: pairs. -/
import Derived.Test.YtcmdekhhclgdcaaGreatDoorSortL
import Derived.Test.YtcmdekhhclgdcaaGreatDoorMemA
import Derived.Test.YtcmdekhhclgdcaaGreatDoorTermA
namespace Go.Proofs.YtcmdekhhclgdcaaGreatDoor
open Go.RowKit Go.Shelf Go.Lib Go.Sort
set_option linter.unusedSimpArgs false
set_option linter.unusedVariables false
set_option linter.unusedSectionVars false
section
variable {α : Type} [Inhabited α]
theorem flat_get (enc : α → List Value) (k : Nat) (hk : ∀ x, (enc x).length = k) : ∀ (l : List α) (t : Nat), t < l.length * k → (l.flatMap enc)[t]? = some ((enc (l[t / k]?.getD default))[t % k]!)
  | [], t, h => by simp at h
  | x :: l, t, h => by
    have hk0 : 0 < k := Nat.pos_of_ne_zero fun e => by subst e; simp at h
    rw [List.flatMap_cons]
    by_cases ht : t < k
    · rw [List.getElem?_append_left (by rw [hk]; exact ht), Nat.div_eq_of_lt ht, Nat.mod_eq_of_lt ht]
      simp [hk, ht]
    · have hd : t / k = (t - k) / k + 1 := by rw [Nat.div_eq_sub_div hk0 (by omega)]
      have hm : t % k = (t - k) % k := by rw [Nat.mod_eq_sub_mod (by omega)]
      rw [List.getElem?_append_right (by rw [hk]; omega), hk, hd, hm, flat_get enc k hk l (t - k) (by rw [List.length_cons, Nat.add_mul] at h; omega)]
      simp
theorem flat_len (enc : α → List Value) (k : Nat) (hk : ∀ x, (enc x).length = k) (l : List α) : (l.flatMap enc).length = l.length * k := by
  induction l with
  | nil => simp
  | cons x l ih => rw [List.flatMap_cons, List.length_append, hk, ih, List.length_cons, Nat.add_mul]; omega
theorem flatK_eq (enc : α → List Value) (k : Nat) (hk : ∀ x, (enc x).length = k) (d : Array α) : flatK enc k d = (d.toList.flatMap enc).toArray := by
  apply Array.ext
  · simp [flat_len enc k hk]
  · intro t h1 h2
    have h3 := flat_get enc k hk d.toList t (by simpa using h1)
    have h4 := get_flatK enc k d t (by simpa using h1)
    rw [getElem!_pos _ t h1] at h4
    rw [h4]
    have h5 : (d.toList.flatMap enc).toArray[t]? = some ((enc (d.toList[t / k]?.getD default))[t % k]!) := by simpa using h3
    rw [Array.getElem?_eq_getElem h2] at h5
    rw [Option.some.inj h5]
    congr 2
    rw [getElem!_def]
    simp
    cases d[t / k]? <;> rfl
theorem putCells_eq (F c : Array Value) (h : F.size ≤ c.size) : putCells id 0 F c = (F.toList ++ c.toList.drop F.size).toArray := by
  apply Array.ext_getElem?
  intro t
  unfold putCells
  rw [Array.getElem?_mapIdx]
  have e : ((F.toList ++ c.toList.drop F.size).toArray)[t]? = (F.toList ++ c.toList.drop F.size)[t]? := List.getElem?_toArray
  have hFl : F.toList.length = F.size := by simp
  rw [e]
  by_cases ht : t < c.size
  · by_cases hf : t < F.size
    · rw [List.getElem?_append_left (by rw [hFl]; exact hf)]
      simp [ht, hf]
    · rw [List.getElem?_append_right (by rw [hFl]; omega), List.getElem?_drop, hFl, show F.size + (t - F.size) = t by omega]
      simp [ht, hf]
  · rw [List.getElem?_append_right (by rw [hFl]; omega), List.getElem?_drop, hFl, show F.size + (t - F.size) = t by omega]
    simp [ht]
theorem flat_cells {E : PH → List Value → α → Prop} {H : PH} (enc : α → List Value) (k : Nat) (hk : ∀ x, (enc x).length = k) : ∀ (l : List α), (∀ x ∈ l, E H (enc x) x) → Cells H E k (l.flatMap enc) l
  | [], _ => rfl
  | x :: l, h => ⟨enc x, l.flatMap enc, List.flatMap_cons, hk x, h x (by simp), flat_cells enc k hk l fun y hy => h y (by simp [hy])⟩
theorem cells_flat {E : PH → List Value → α → Prop} {H : PH} (enc : α → List Value) (k : Nat) (he : ∀ cs x, E H cs x → cs = enc x) : ∀ {l : List α} {c : List Value}, Cells H E k c l → c = l.flatMap enc ∧ ∀ x ∈ l, E H (enc x) x
  | [], c, h => ⟨h, fun x hx => by cases hx⟩
  | x :: l, c, h => by
    obtain ⟨cs, rest, rfl, h1, h2, h3⟩ := h
    obtain ⟨r1, r2⟩ := cells_flat enc k he h3
    have := he _ _ h2
    subst this
    refine ⟨by rw [List.flatMap_cons, ← r1], fun y hy => ?_⟩
    rcases List.mem_cons.1 hy with rfl | hy
    · exact h2
    · exact r2 y hy
/-- the world behind a sort, in the words of chunks -/
theorem sorted_own {E : PH → List Value → α → Prop} {H : PH} {T : TypeId} {w : World} {g cap n : Nat} {cur : Array Value} {xs : List α} {d' : Array α} {os : Array Obj} (enc : α → List Value) (k : Nat) (hk : ∀ x, (enc x).length = k) (he : ∀ cs x, E H cs x → cs = enc x)
    (hg : w.heap[g]? = some (.cells cur T (0, 0))) (hx : xs.length ≤ cap) (hc : cap ≤ maxLen) (hs : cur.size = cap * k) (hC : Cells H E k (cur.toList.take (xs.length * k)) xs) (hp : d'.toList.Perm xs) :
    OwnC H (sortWorldK enc k w g 0 n d' os) E k T (.slice (some ⟨g, 0, none⟩) xs.length cap) d'.toList ∧ w.grownBy (sortWorldK enc k w g 0 n d' os) (some g) := by
  have hlt : g < w.heap.size := (Array.getElem?_eq_some_iff.1 hg).1
  have hmul : xs.length * k ≤ cap * k := Nat.mul_le_mul_right _ hx
  have hlen := hp.length_eq
  have hd : d'.size = xs.length := by simpa using hlen
  obtain ⟨-, r2⟩ := cells_flat enc k he hC
  have hblk : ∀ j, j < w.heap.size → (sortWorldK enc k w g 0 n d' os).heap[j]? = (w.heap.modify g (onCells (putCells id 0 (flatK enc k d'))))[j]? := by
    intro j hj
    show (w.heap.modify g _ ++ os)[j]? = _
    rw [Array.getElem?_append_left (by simpa using hj)]
  have hsz : w.heap.size ≤ (sortWorldK enc k w g 0 n d' os).heap.size := by
    show w.heap.size ≤ (w.heap.modify g _ ++ os).size
    simp
  refine ⟨.inr ⟨g, cap, putCells id 0 (flatK enc k d') cur, by rw [← hlen], ?_, by rw [hlen]; exact hx, hc, ?_, ?_⟩, ⟨rfl, rfl, rfl, hsz, fun j hj hne => ?_⟩⟩
  · rw [hblk g hlt, Array.getElem?_modify, if_pos rfl, hg]; rfl
  · simp [putCells, hs]
  · have hF : (flatK enc k d').size ≤ cur.size := by rw [size_flatK, hd, hs]; exact hmul
    rw [putCells_eq _ _ hF, flatK_eq enc k hk]
    have : d'.toList.length * k = (d'.toList.flatMap enc).length := (flat_len enc k hk _).symm
    simp only [this, List.take_left']
    exact flat_cells enc k hk _ fun x hx => r2 x (hp.mem_iff.1 hx)
  · rw [hblk j hj, Array.getElem?_modify, if_neg (fun e => hne (by rw [e]))]
end
def encIv (x : Iv) : List Value := [.int .i64 x.1, .int .i64 x.2]
theorem ltIv (x y : Iv) : ltOf (fun x y : Iv => Lib.compareInt x.1 y.1) x y = decide (x.1 < y.1) := by
  unfold ltOf Lib.compareInt
  by_cases h1 : x.1 < y.1
  · simp [h1]
  · by_cases h2 : y.1 < x.1 <;> simp [h1, h2]
theorem swoIv : SWO (ltOf fun x y : Iv => Lib.compareInt x.1 y.1) where
  irrefl x := by rw [ltIv]; simp
  trans x y z h1 h2 := by rw [ltIv] at *; simp at *; omega
  ntrans x y z h1 h2 := by rw [ltIv] at *; simp at *; omega
set_option maxHeartbeats 1000000 in
theorem cmpIv (x y : Iv) (W : World) : Calls Tryz.prog 71 #[.agg #[.int .i64 x.1, .int .i64 x.2], .agg #[.int .i64 y.1, .int .i64 y.2]] W fun e w' => e = .returned (.int .i64 (Lib.compareInt x.1 y.1)) ∧ ∃ q os', w' = grow (W.drewN q) os' := by
  have hcon := fun W' => AnyG.cmp_Compare_int cmpInt x.1 y.1 W'
  change ∀ W', Calls Tryz.prog 42 _ _ _ at hcon
  generalize Lib.compareInt x.1 y.1 = r at hcon ⊢
  go_enter Tryz.func71, Tryz.ntmps71
  go_wp2_with fail
  refine (hcon _).mono ?_
  rintro e w' ⟨rfl, rfl⟩
  go_wp2_with fail
  go_ret
  exact ⟨rfl, 0, _, by rw [alloc_eq_grow, alloc_eq_grow, grow_grow]; rfl⟩
theorem ivR_enc {h : PH} (cs : List Value) (x : Iv) (hr : IvR h cs x) : cs = encIv x := hr.1
def SortP (H : PH) (w : World) (v : Value) (xs : List Iv) (e : Ending) (w' : World) : Prop :=
  e = .returned (.tuple #[]) ∧ ∃ xs', xs'.Perm xs ∧ xs'.Pairwise (fun x y : Iv => x.1 ≤ y.1) ∧ OwnC H w' IvR 2 126 v xs' ∧ w.grownBy w' v.ownBlock
set_option maxHeartbeats 1000000 in
theorem sort_c (H : PH) (v : Value) (xs : List Iv) (w : World) (hO : OwnC H w IvR 2 126 v xs) (hn : xs.length ≤ 1000000) :
    Calls Tryz.prog 70 #[v, .func (.func 71) #[] #[]] w (SortP H w v xs) := by
  rcases hO with ⟨rfl, rfl⟩ | ⟨g, cap, cur, rfl, hg, h1, h2, h3, h4⟩
  · have hS := AnyF.slices_SortFunc_none (P := Tryz.prog) (ρ := sortIv_ren) { sortIv with } none 0 (.func (.func 71) #[] #[]) w
    change Calls Tryz.prog 70 _ _ _ at hS
    refine hS.mono ?_
    rintro e w' ⟨rfl, rfl⟩
    exact ⟨rfl, [], List.Perm.refl _, List.Pairwise.nil, .inl ⟨rfl, rfl⟩, ⟨rfl, rfl, rfl, Nat.le_refl _, fun _ _ _ => rfl⟩⟩
  · have hlt : g < w.heap.size := (Array.getElem?_eq_some_iff.1 hg).1
    have hmul : xs.length * 2 ≤ cap * 2 := Nat.mul_le_mul_right _ h1
    obtain ⟨r1, r2⟩ := cells_flat encIv 2 ivR_enc h4
    have hH : HoldsK encIv 2 w g 0 xs.toArray := by
      intro j hj
      rw [size_flatK] at hj
      have hj' : j < xs.length * 2 := by simpa using hj
      rw [Nat.zero_add]
      refine ⟨?_, by simp [World.frozen?, hg]⟩
      rw [show w.cell? ⟨g, j, none⟩ = cur[j]? by simp [World.cell?, hg]]
      have e1 : cur[j]? = (cur.toList.take (xs.length * 2))[j]? := by rw [List.getElem?_take, if_pos hj']; simp
      rw [e1, r1, flatK_eq encIv 2 (fun _ => rfl), id]
      have hl : j < (xs.flatMap encIv).length := by rw [flat_len encIv 2 (fun _ => rfl)]; exact hj'
      simp
      rw [List.getElem?_eq_getElem hl]; rfl
    have eg : ∀ args w, (callFunc 71 args).run Tryz.prog w = .ok (.enter 71 args) w := enters_of Tryz.func71 (by kernel_rfl) rfl
    have hcon := AnyQ.slices_SortFunc sortIv 2 Tryz.isAgg126 Tryz.sizeOf126 encIv (fun _ => rfl) (fun x v hv => by simp [encIv] at hv; rcases hv with rfl | rfl <;> rfl) (fun x y => Lib.compareInt x.1 y.1) swoIv 71 #[] g 0 cap xs.toArray w eg (fun _ _ _ _ x y => cmpIv x y _) hH hlt (by simp; omega)
    change Calls Tryz.prog 70 _ _ _ at hcon
    rw [show xs.toArray.size = xs.length by simp] at hcon
    refine hcon.mono ?_
    rintro e w' ⟨rfl, d', n, os, ⟨hp1, -, hp2⟩, hs, rfl⟩
    have hp : d'.toList.Perm xs := by
      have : d'.size = xs.length := by simpa using hp1
      have e2 : (xs.toArray.extract 0 xs.length).toList = xs := by simp
      have e3 : (d'.extract 0 xs.length).toList = d'.toList := by rw [← this]; simp
      rw [e2, e3] at hp2
      exact hp2
    have hd : d'.size = xs.length := by simpa using hp.length_eq
    obtain ⟨o1, o2⟩ := sorted_own (os := os) (n := n) encIv 2 (fun _ => rfl) ivR_enc hg h1 h2 h3 h4 hp
    refine ⟨rfl, d'.toList, hp, ?_, o1, o2⟩
    rw [List.pairwise_iff_getElem]
    intro i j hi hj hij
    have hj' : j < d'.size := by simpa using hj
    have := hs i j (Nat.zero_le _) hij (by omega)
    rw [ltIv, getElem!_pos d' j hj', getElem!_pos d' i (by omega)] at this
    simp at this
    simpa using this
end Go.Proofs.YtcmdekhhclgdcaaGreatDoor
namespace Go.Proofs.YtcmdekhhclgdcaaGreatDoor
open Go.RowKit Go.Shelf
set_option linter.unusedSimpArgs false
set_option linter.unusedVariables false
section
variable {w0 A B w w' : World} {H0 H : PH} {L : List Chunk}
theorem Cells.setSnd {x : Iv} {y : Int} (hx : I64 x.1 ∧ I64 y) : ∀ {xs : List Iv} {c : List Value} (k : Nat), xs[k]? = some x → Cells H IvR 2 c xs → Cells H IvR 2 (c.set (k * 2 + 1) (.int .i64 y)) (xs.set k (x.1, y))
  | [], _, k, hk, _ => by simp at hk
  | z :: zs, c, 0, hk, hc => by
    obtain ⟨cs, rest, rfl, h1, h2, h3⟩ := hc
    obtain ⟨rfl, -⟩ := h2
    obtain rfl : z = x := by simpa using hk
    exact ⟨[.int .i64 z.1, .int .i64 y], rest, rfl, rfl, ⟨rfl, hx⟩, h3⟩
  | z :: zs, c, k + 1, hk, hc => by
    obtain ⟨cs, rest, rfl, h1, h2, h3⟩ := hc
    obtain ⟨rfl, -⟩ := id h2
    refine ⟨_, rest.set (k * 2 + 1) (.int .i64 y), ?_, rfl, h2, Cells.setSnd hx k (by simpa using hk) h3⟩
    rw [show (k + 1) * 2 + 1 = (k * 2 + 1) + 1 + 1 by omega]
    rfl
/-- the second half of pair k is written -/
theorem Mem.setSnd {v : Value} {xs : List Iv} {T : TypeId} {x : Iv} {y : Int} (h : Mem w0 H0 L H w) (i : Nat) (hi : L[i]? = some (own mono_IvR 2 T v xs)) (k : Nat) (hk : xs[k]? = some x) (hx : I64 x.1 ∧ I64 y) :
    ∃ g cap, v = .slice (some ⟨g, 0, none⟩) xs.length cap ∧ w.cell? ⟨g, k * 2, none⟩ = some (.int .i64 x.1) ∧ w.cell? ⟨g, k * 2 + 1, none⟩ = some (.int .i64 x.2) ∧ w.frozen? ⟨g, k * 2 + 1, none⟩ = false ∧ g < w.heap.size ∧
      Mem w0 H0 (L.set i (own mono_IvR 2 T v (xs.set k (x.1, y)))) H (w.setCell ⟨g, k * 2 + 1, none⟩ (.int .i64 y)) := by
  have h4 : OwnC H w IvR 2 T v xs := h.ok i _ hi
  obtain ⟨hkl, hkx⟩ := List.getElem?_eq_some_iff.1 hk
  rcases h4 with ⟨rfl, rfl⟩ | ⟨g, cap, cur, rfl, k1, k2, k3, k4, k5⟩
  · simp at hkl
  · have hgl := (Array.getElem?_eq_some_iff.1 k1).1
    obtain ⟨cs, q1, q2, q3⟩ := k5.get k hkl
    obtain ⟨rfl, -⟩ := q3
    rw [hkx] at q2
    have q4 := q2 0 (by omega)
    have q5 := q2 1 (by omega)
    rw [List.getElem?_take, if_pos (by omega)] at q4 q5
    have e : cur.size > k * 2 + 1 := by omega
    refine ⟨g, cap, rfl, ?_, ?_, by simp [World.frozen?, k1], hgl, ?_⟩
    · rw [show w.cell? ⟨g, k * 2, none⟩ = cur[k * 2]? by simp [World.cell?, k1]]; simpa using q4
    · rw [show w.cell? ⟨g, k * 2 + 1, none⟩ = cur[k * 2 + 1]? by simp [World.cell?, k1]]; simpa using q5
    · refine h.put i hi (c' := own mono_IvR 2 T _ (xs.set k (x.1, y))) (.inr ⟨g, cap, cur.setIfInBounds (k * 2 + 1) (.int .i64 y), by simp, ?_, by simpa using k2, k3, by simpa using k4, ?_⟩) (fun k hk => .inl hk) (h.ex.set' (h.fr i _ hi g rfl).1 _) fun j hj hne => ?_
      · exact Own.set (T := T) k1 _ _
      · have := Cells.setSnd (H := H) hx k hk k5
        rw [List.length_set, Array.toList_setIfInBounds, List.take_set]
        exact this
      · rw [Below.heap_setCell _ _ _ _ (fun e => hne (by rw [e]; rfl))]
end
end Go.Proofs.YtcmdekhhclgdcaaGreatDoor
