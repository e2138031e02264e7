/- the world behind a sort of a row of one's own, in the words of chunks. -/
import Derived.Shelf.SlSortCmp.WholeK
import Derived.Shelf.SlSortCmp.NoneTotal
import Derived.Test.YtmbkefgmiehdiaaMemA
namespace Go.Proofs.Ytmbkefgmiehdiaa
open Go.RowKit Go.Shelf Go.Lib Go.Sort
set_option linter.unusedSimpArgs false
set_option linter.unusedVariables false
set_option linter.unusedSectionVars false
section
variable {α : Type} [Inhabited α]
theorem flat_get (enc : α → List Value) (k : Nat) (hk : ∀ x, (enc x).length = k) : ∀ (l : List α) (t : Nat), t < l.length * k → (l.flatMap enc)[t]? = some ((enc (l[t / k]?.getD default))[t % k]!)
  | [], t, h => by simp at h
  | x :: l, t, h => by
    have hk0 : 0 < k := Nat.pos_of_ne_zero fun e => by subst e; simp at h
    rw [List.flatMap_cons]
    by_cases ht : t < k
    · rw [List.getElem?_append_left (by rw [hk]; exact ht), Nat.div_eq_of_lt ht, Nat.mod_eq_of_lt ht]
      simp [hk, ht]
    · have hd : t / k = (t - k) / k + 1 := by rw [Nat.div_eq_sub_div hk0 (by omega)]
      have hm : t % k = (t - k) % k := by rw [Nat.mod_eq_sub_mod (by omega)]
      rw [List.getElem?_append_right (by rw [hk]; omega), hk, hd, hm, flat_get enc k hk l (t - k) (by rw [List.length_cons, Nat.add_mul] at h; omega)]
      simp
theorem flat_len (enc : α → List Value) (k : Nat) (hk : ∀ x, (enc x).length = k) (l : List α) : (l.flatMap enc).length = l.length * k := by
  induction l with
  | nil => simp
  | cons x l ih => rw [List.flatMap_cons, List.length_append, hk, ih, List.length_cons, Nat.add_mul]; omega
theorem flatK_eq (enc : α → List Value) (k : Nat) (hk : ∀ x, (enc x).length = k) (d : Array α) : flatK enc k d = (d.toList.flatMap enc).toArray := by
  apply Array.ext
  · simp [flat_len enc k hk]
  · intro t h1 h2
    have h3 := flat_get enc k hk d.toList t (by simpa using h1)
    have h4 := get_flatK enc k d t (by simpa using h1)
    rw [getElem!_pos _ t h1] at h4
    rw [h4]
    have h5 : (d.toList.flatMap enc).toArray[t]? = some ((enc (d.toList[t / k]?.getD default))[t % k]!) := by simpa using h3
    rw [Array.getElem?_eq_getElem h2] at h5
    rw [Option.some.inj h5]
    congr 2
    rw [getElem!_def]
    simp
    cases d[t / k]? <;> rfl
theorem putCells_eq (F c : Array Value) (h : F.size ≤ c.size) : putCells id 0 F c = (F.toList ++ c.toList.drop F.size).toArray := by
  apply Array.ext_getElem?
  intro t
  unfold putCells
  rw [Array.getElem?_mapIdx]
  have e : ((F.toList ++ c.toList.drop F.size).toArray)[t]? = (F.toList ++ c.toList.drop F.size)[t]? := List.getElem?_toArray
  have hFl : F.toList.length = F.size := by simp
  rw [e]
  by_cases ht : t < c.size
  · by_cases hf : t < F.size
    · rw [List.getElem?_append_left (by rw [hFl]; exact hf)]
      simp [ht, hf]
    · rw [List.getElem?_append_right (by rw [hFl]; omega), List.getElem?_drop, hFl, show F.size + (t - F.size) = t by omega]
      simp [ht, hf]
  · rw [List.getElem?_append_right (by rw [hFl]; omega), List.getElem?_drop, hFl, show F.size + (t - F.size) = t by omega]
    simp [ht]
theorem flat_cells {E : PH → List Value → α → Prop} {H : PH} (enc : α → List Value) (k : Nat) (hk : ∀ x, (enc x).length = k) : ∀ (l : List α), (∀ x ∈ l, E H (enc x) x) → Cells H E k (l.flatMap enc) l
  | [], _ => rfl
  | x :: l, h => ⟨enc x, l.flatMap enc, List.flatMap_cons, hk x, h x (by simp), flat_cells enc k hk l fun y hy => h y (by simp [hy])⟩
theorem cells_flat {E : PH → List Value → α → Prop} {H : PH} (enc : α → List Value) (k : Nat) (he : ∀ cs x, E H cs x → cs = enc x) : ∀ {l : List α} {c : List Value}, Cells H E k c l → c = l.flatMap enc ∧ ∀ x ∈ l, E H (enc x) x
  | [], c, h => ⟨h, fun x hx => by cases hx⟩
  | x :: l, c, h => by
    obtain ⟨cs, rest, rfl, h1, h2, h3⟩ := h
    obtain ⟨r1, r2⟩ := cells_flat enc k he h3
    have := he _ _ h2
    subst this
    refine ⟨by rw [List.flatMap_cons, ← r1], fun y hy => ?_⟩
    rcases List.mem_cons.1 hy with rfl | hy
    · exact h2
    · exact r2 y hy
/-- the world behind a sort, in the words of chunks -/
theorem sorted_own {E : PH → List Value → α → Prop} {H : PH} {T : TypeId} {w : World} {g cap n : Nat} {cur : Array Value} {xs : List α} {d' : Array α} {os : Array Obj} (enc : α → List Value) (k : Nat) (hk : ∀ x, (enc x).length = k) (he : ∀ cs x, E H cs x → cs = enc x)
    (hg : w.heap[g]? = some (.cells cur T (0, 0))) (hx : xs.length ≤ cap) (hc : cap ≤ maxLen) (hs : cur.size = cap * k) (hC : Cells H E k (cur.toList.take (xs.length * k)) xs) (hp : d'.toList.Perm xs) :
    OwnC H (sortWorldK enc k w g 0 n d' os) E k T (.slice (some ⟨g, 0, none⟩) xs.length cap) d'.toList ∧ w.grownBy (sortWorldK enc k w g 0 n d' os) (some g) := by
  have hlt : g < w.heap.size := (Array.getElem?_eq_some_iff.1 hg).1
  have hmul : xs.length * k ≤ cap * k := Nat.mul_le_mul_right _ hx
  have hlen := hp.length_eq
  have hd : d'.size = xs.length := by simpa using hlen
  obtain ⟨-, r2⟩ := cells_flat enc k he hC
  have hblk : ∀ j, j < w.heap.size → (sortWorldK enc k w g 0 n d' os).heap[j]? = (w.heap.modify g (onCells (putCells id 0 (flatK enc k d'))))[j]? := by
    intro j hj
    show (w.heap.modify g _ ++ os)[j]? = _
    rw [Array.getElem?_append_left (by simpa using hj)]
  have hsz : w.heap.size ≤ (sortWorldK enc k w g 0 n d' os).heap.size := by
    show w.heap.size ≤ (w.heap.modify g _ ++ os).size
    simp
  refine ⟨.inr ⟨g, cap, putCells id 0 (flatK enc k d') cur, by rw [← hlen], ?_, by rw [hlen]; exact hx, hc, ?_, ?_⟩, ⟨rfl, rfl, rfl, hsz, fun j hj hne => ?_⟩⟩
  · rw [hblk g hlt, Array.getElem?_modify, if_pos rfl, hg]; rfl
  · simp [putCells, hs]
  · have hF : (flatK enc k d').size ≤ cur.size := by rw [size_flatK, hd, hs]; exact hmul
    rw [putCells_eq _ _ hF, flatK_eq enc k hk]
    have : d'.toList.length * k = (d'.toList.flatMap enc).length := (flat_len enc k hk _).symm
    simp only [this, List.take_left']
    exact flat_cells enc k hk _ fun x hx => r2 x (hp.mem_iff.1 hx)
  · rw [hblk j hj, Array.getElem?_modify, if_neg (fun e => hne (by rw [e]))]
end
end Go.Proofs.Ytmbkefgmiehdiaa
