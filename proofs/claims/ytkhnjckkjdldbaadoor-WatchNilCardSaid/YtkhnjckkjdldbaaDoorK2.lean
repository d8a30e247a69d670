import Derived.Test.YtkhnjckkjdldbaaDoorK1
import Derived.Shelf.SlSortCmp.WholeK
import Derived.Sort.OwnSortedInts
namespace Go.Proofs.YtkhnjckkjdldbaaDoor.Q
open Go.RowKit Go.Proofs.YtkhnjckkjdldbaaDoorW.PrintWords Go.Deep Go.Maps Go.WideShapes Go.Sort
open Go.Proofs.YtkhnjckkjdldbaaDoor.Pr (S30)
set_option linter.unusedVariables false
set_option linter.unusedSimpArgs false
/-! A ROW OF ELEMENTS OF k CELLS, SORTED -/
section
variable {α : Type} {enc : α → List Value} {k : Nat}
theorem flat_lenK (henc : ∀ x, (enc x).length = k) (l : List α) : (l.flatMap enc).length = l.length * k := by
  induction l with
  | nil => simp
  | cons x l ih => rw [List.flatMap_cons, List.length_append, ih, henc, List.length_cons, Nat.add_mul]; omega
theorem flat_getK (henc : ∀ x, (enc x).length = k) : ∀ (xs : List α) (i : Nat) (hi : i < xs.length) (j : Nat), j < k → (xs.flatMap enc)[i * k + j]? = (enc xs[i])[j]?
  | x :: xs, 0, hi, j, hj => by
    rw [List.flatMap_cons, Nat.zero_mul, Nat.zero_add, List.getElem?_append_left (by rw [henc]; exact hj)]; rfl
  | x :: xs, i + 1, hi, j, hj => by
    rw [List.flatMap_cons, List.getElem?_append_right (by rw [henc, Nat.add_mul]; omega), henc, show (i + 1) * k + j - k = i * k + j by rw [Nat.add_mul]; omega, flat_getK henc xs i (by simpa using hi) j hj]
    rfl
theorem flatK_eq [Inhabited α] (henc : ∀ x, (enc x).length = k) (d : List α) : flatK enc k d.toArray = (d.flatMap enc).toArray := by
  refine ext_get! (by simp [flat_lenK henc]) fun t ht => ?_
  have ht' : t < d.length * k := by simpa using ht
  have k0 : 0 < k := by
    rcases Nat.eq_zero_or_pos k with h | h
    · subst h; simp at ht'
    · exact h
  have h1 : t / k < d.length := (Nat.div_lt_iff_lt_mul k0).2 ht'
  have h2 : t % k < k := Nat.mod_lt _ k0
  have h3 : t / k * k + t % k = t := by rw [Nat.mul_comm]; exact Nat.div_add_mod t k
  rw [get_flatK _ _ _ _ (by simpa using ht')]
  have h4 := flat_getK henc d (t / k) h1 (t % k) h2
  rw [h3] at h4
  have hlt : t < (d.flatMap enc).length := by rw [flat_lenK henc]; exact ht'
  have h5 : (d.flatMap enc).toArray[t]! = (d.flatMap enc)[t] := by
    rw [getElem!_pos (d.flatMap enc).toArray t (by simpa using hlt)]
    rfl
  have h6 : (d.toArray)[t / k]! = d[t / k] := by simp [h1]
  have h7 : t % k < (enc d[t / k]).length := by rw [henc]; exact h2
  rw [List.getElem?_eq_getElem hlt, List.getElem?_eq_getElem h7] at h4
  rw [h6, getElem!_pos (enc d[t / k]) (t % k) h7, h5]
  exact (Option.some.inj h4).symm
end
theorem holds_of_blockV {w : World} {g : Nat} {cur : Array Value} {e : TypeId} {ss : List Value} (hb : w.heap[g]? = some (.cells cur e (0, 0))) (ht : cur.toList.take ss.length = ss) : Holds id w g 0 ss.toArray := by
  intro j hj
  have hj' : j < ss.length := by simpa using hj
  refine ⟨?_, by simp [World.frozen?, hb]⟩
  have h1 : (cur.toList.take ss.length)[j]? = ss[j]? := by rw [ht]
  rw [List.getElem?_take_of_lt hj'] at h1
  simp only [World.cell?, hb, Nat.zero_add]
  simp only [Option.isSome_none, Bool.false_eq_true, if_false]
  rw [← Array.getElem?_toList, h1]
  simp [hj']
theorem heap_sortedV {w : World} {g n : Nat} {os : Array Obj} {cur : Array Value} {e : TypeId} {fr : Nat × Nat} (d : Array Value) (hb : w.heap[g]? = some (.cells cur e fr)) :
    (grow (putRow id (Sort.ahead w n) g 0 d) os).heap[g]? = some (.cells (putCells id 0 d cur) e fr) := by
  have hg : g < w.heap.size := (Array.getElem?_eq_some_iff.1 hb).1
  rw [heap_grow_old _ _ (by simpa using hg)]
  simp [putRow, mapBlock, Sort.ahead, Array.getElem?_modify, hb, onCells]
theorem grownBy_sortedV {w : World} {g n : Nat} {os : Array Obj} (d : Array Value) : w.grownBy (grow (putRow id (Sort.ahead w n) g 0 d) os) (some g) := by
  refine ⟨rfl, rfl, rfl, by simp, fun k hk hne => ?_⟩
  rw [heap_grow_old _ _ (by simpa using hk)]
  have : g ≠ k := fun e => hne (by rw [e])
  simp [putRow, mapBlock, Sort.ahead, Array.getElem?_modify, this]
theorem take_putCellsV (cur : Array Value) (ts : List Value) (h : ts.length ≤ cur.size) : (putCells id 0 ts.toArray cur).toList.take ts.length = ts := by
  apply List.ext_getElem?
  intro j
  by_cases hj : j < ts.length
  · rw [List.getElem?_take_of_lt hj, Array.getElem?_toList]
    simp [putCells, hj, show j < cur.size by omega]
  · rw [List.getElem?_take_eq_none (by omega), List.getElem?_eq_none (by omega)]
/-- BEHIND THE SORT the same slice owns the sorted list. -/
theorem ownsRow_sortedV {w : World} {base g cap n m k : Nat} {e : TypeId} {os : Array Obj} {cur : Array Value} {ts : List Value} (hl : ts.length = m * k) (hbase : base ≤ g) (hb : w.heap[g]? = some (.cells cur e (0, 0)))
    (h1 : m ≤ cap) (h2 : cap ≤ maxLen) (h3 : cur.size = cap * k) :
    (grow (putRow id (Sort.ahead w n) g 0 ts.toArray) os).ownsRow base e k (.slice (some ⟨g, 0, none⟩) m cap) m ts :=
  ⟨hl, .inr ⟨g, cap, _, rfl, hbase, heap_sortedV _ hb, h1, h2, by simp [putCells, h3], by rw [← hl]; exact take_putCellsV cur ts (by rw [hl, h3]; exact Nat.mul_le_mul_right _ h1)⟩⟩
/-- two lists that hold the same and rise by a number that tells their elements apart are one -/
theorem rising_unique {β : Type} (key : β → Int) : ∀ {l m : List β}, l.Perm m → l.Pairwise (fun x y => key x < key y) → m.Pairwise (fun x y => key x < key y) → l = m
  | [], m, h, _, _ => (List.nil_perm.1 h).symm
  | x :: l, [], h, _, _ => absurd h.symm (by simp)
  | x :: l, y :: m, h, hl, hm => by
    rw [List.pairwise_cons] at hl hm
    have hxy : x = y := by
      have h1 : x ∈ y :: m := h.subset List.mem_cons_self
      have h2 : y ∈ x :: l := h.symm.subset List.mem_cons_self
      rcases List.mem_cons.1 h1 with e | e
      · exact e
      · rcases List.mem_cons.1 h2 with e2 | e2
        · exact e2.symm
        · have := hm.1 x e; have := hl.1 y e2; omega
    subst hxy
    rw [rising_unique key (List.Perm.cons_inv h) hl.2 hm.2]
end Go.Proofs.YtkhnjckkjdldbaaDoor.Q
