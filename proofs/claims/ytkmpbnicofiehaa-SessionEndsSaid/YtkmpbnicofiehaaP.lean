import Derived.Test.YtkmpbnicofiehaaE
import Derived.Test.YtkmpbnicofiehaaShelfS
import Derived.Sort.OwnSortedInts
namespace Go.Proofs.Ytkmpbnicofiehaa.Q
open Go.RowKit Go.Proofs.YtkmpbnicofiehaaW.PrintWords Go.Deep Go.Maps Go.WideShapes Go.Sort
set_option linter.unusedVariables false
set_option linter.unusedSimpArgs false

/-! EVERY LIST IS SORTED (by the shelf's contract) -/
theorem sort_all (m : Nat) (hm : m ≤ 1000000) : SortOK m := by
  intro v xs w base hb hrow hl
  by_cases h0 : xs.length ≤ 1
  · exact sort_one v xs w base hb hrow h0
  rcases hrow.2 with ⟨_, hn⟩ | ⟨g, cap, cur, rfl, hbase, hbk, h1, h2, h3, h4⟩
  · omega
  have hH : Holds (Value.int .i64) w g 0 xs.toArray := holds_of_blockI hbk (by rw [Nat.mul_one] at h4; exact h4)
  have hc := AnyM.slices_Sort_int Try.sortL g 0 cap xs w hH (Array.getElem?_eq_some_iff.1 hbk).1 (by omega)
  refine Calls.mono hc ?_
  rintro e w' ⟨rfl, n, os, rfl⟩
  have hp : (xs.mergeSort fun x y => decide (x ≤ y)).Perm xs := List.mergeSort_perm xs _
  have hlen := hp.length_eq
  refine ⟨rfl, xs.mergeSort fun x y => decide (x ≤ y), hp, ?_, ?_, ?_⟩
  · have := List.pairwise_mergeSort (le := fun x y : Int => decide (x ≤ y)) (fun a b c h1 h2 => by simp at *; omega) (fun a b => by simp; omega) xs
    exact this.imp (fun h => by simpa using h)
  · rw [hlen]
    exact ownsRow_sortedI hlen hbase hbk h1 h2 h3
  · have hg := grownBy_sortedI (w := w) (g := g) (n := n) (os := os) (xs.mergeSort fun x y => decide (x ≤ y)).toArray
    exact ⟨hg.os, hg.tape, hg.output, hg.size, fun k hk hn => hg.block k hk (fun e => hn (by cases e; exact hbase))⟩
end Go.Proofs.Ytkmpbnicofiehaa.Q
