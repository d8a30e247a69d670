import Derived.Test.YtkhnjckkjdldbaaGreatDoorK10
import Derived.Test.YtkhnjckkjdldbaaGreatDoorBag
namespace Go.Proofs.YtkhnjckkjdldbaaGreatDoor.Q
open Go.RowKit Go.Proofs.YtkhnjckkjdldbaaGreatDoorW.PrintWords Go.Deep Go.Maps Go.WideShapes
open Go.Proofs.YtkhnjckkjdldbaaGreatDoor.Pr (S57 S59 z57 k57 k59 rd_T57 lagoonref18_Is.f lagoonref18_path.f)
open Go.Proofs.YtkhnjckkjdldbaaGreatDoor
open Go.Proofs.YtkhnjckkjdldbaaGreatDoor.Bag (own_lower)
set_option linter.unusedVariables false
set_option linter.unusedSimpArgs false
attribute [local go_sem] Oper.semAt_some
/-! CLEAR, DROP; IS, HAS -/
theorem clear1_calls (x : S57) (w : World) : Calls Tryz.prog 55 #[.agg (encW x).toArray] w fun e w' => e = .returned (.bool true) ∧ Below w.heap.size w w' := by
  obtain ⟨a, k, p⟩ := x
  have HB := Lib.hid (below_alloc (Below.refl w.heap.size w) (.cells #[.int .i64 a, .int .i8 k, .string p] 57))
  go_enter Tryz.func55, Tryz.ntmps55
  go_wp2
  go_ret
  exact ⟨rfl, HB.out⟩
theorem drop1_calls (x : S57) (n : Int) (dx : Nat) (w : World) (h : w.heap[dx]? = some (.cells #[.int .i64 n] 2 (0, 0))) : Calls Tryz.prog 54 #[.agg (encW x).toArray, .pointer (some ⟨dx, 0, none⟩)] w fun e w' => e = .returned (.bool (x.f0 == n)) ∧ Below w.heap.size w w' := by
  obtain ⟨a, k, p⟩ := x
  obtain ⟨W1, hW1⟩ : ∃ V, w.alloc (.cells #[.int .i64 a, .int .i8 k, .string p] 57) = V := ⟨_, rfl⟩
  have hB := below_alloc (Below.refl w.heap.size w) (.cells #[.int .i64 a, .int .i8 k, .string p] 57)
  have x0 : (w.alloc (.cells #[.int .i64 a, .int .i8 k, .string p] 57)).cell? ⟨w.heap.size, 0, none⟩ = some (.int .i64 a) := cell_rowK (k := 0) (World.alloc_heap_new w _) rfl
  have x1 : (w.alloc (.cells #[.int .i64 a, .int .i8 k, .string p] 57)).cell? ⟨dx, 0, none⟩ = some (.int .i64 n) := cell_rowK (k := 0) (blkK h hB) rfl
  have HB := Lib.hid hB
  clear hB h hW1
  go_enter Tryz.func54, Tryz.ntmps54
  go_wp2
  go_ret
  exact ⟨rfl, HB.out⟩
theorem clear_calls {c b : Nat} {came : Int} {P : WN} {w : World} (h : Brd c b came P w) (hc : came < 4611686018427387904) :
    Calls Tryz.prog 20 #[.pointer (some ⟨c, 0, none⟩)] w fun e w' => ∃ v, e = .returned v ∧ w'.ownsRow w.heap.size 57 3 v ((P.map Prod.fst).filter fun _ => true).length (((P.map Prod.fst).filter fun _ => true).flatMap encW) ∧ Brd c b came (P.filter fun p => !true) w' ∧ Only (fun k => k = b) w w' := by
  have K := Lib.hid (takeAll_calls h hc (fun _ => true) (fun x _ W _ => clear1_calls x W))
  clear h
  go_enter Tryz.func20, Tryz.ntmps20
  go_wp2_with fail
  refine K.out.mono ?_
  rintro e w1 ⟨v, rfl, h1, h2, h3⟩
  have HF := Lib.hid (And.intro h1 (And.intro h2 h3))
  clear h1 h2 h3 K
  go_wp2
  go_ret
  exact ⟨v, rfl, HF.out⟩
theorem drop_calls {c b : Nat} {came : Int} {P : WN} {w : World} (n : Int) (h : Brd c b came P w) (hc : came < 4611686018427387904) :
    Calls Tryz.prog 19 #[.pointer (some ⟨c, 0, none⟩), .int .i64 n] w fun e w' => ∃ v, e = .returned v ∧ w'.ownsRow w.heap.size 57 3 v ((P.map Prod.fst).filter fun x => x.f0 == n).length (((P.map Prod.fst).filter fun x => x.f0 == n).flatMap encW) ∧ Brd c b came (P.filter fun p => !(p.1.f0 == n)) w' ∧ Only (fun k => k = b) w w' := by
  obtain ⟨W1, hW1⟩ : ∃ V, w.alloc (.cells #[.int .i64 n] 2) = V := ⟨_, rfl⟩
  have hB1 : Below w.heap.size w W1 := by rw [← hW1]; exact below_alloc (Below.refl _ _) _
  have hz : W1.heap[w.heap.size]? = some (.cells #[.int .i64 n] 2 (0, 0)) := by rw [← hW1]; exact World.alloc_heap_new w _
  have hbb : b < w.heap.size := by obtain ⟨D, h1, _⟩ := h.map; exact h1.lt
  have K := Lib.hid (takeDrop_calls (h.below hB1) hc (fun x => x.f0 == n) w.heap.size (fun x _ W ho => drop1_calls x n w.heap.size W (ho.blk hz (fun e => by omega))))
  have HB := Lib.hid hB1
  have HW := Lib.hid hW1
  clear h hB1 hz hW1
  go_enter Tryz.func19, Tryz.ntmps19
  go_wp2_with fail
  rw [HW.out]
  refine K.out.mono ?_
  rintro e w1 ⟨v, rfl, h1, h2, h3⟩
  have HF := Lib.hid (And.intro h1 (And.intro h2 h3))
  clear h1 h2 h3 K
  go_wp2
  go_ret
  exact ⟨v, rfl, own_lower HF.out.1 HB.out.size, HF.out.2.1, (Only.of_below (S := fun k => k = b) HB.out).trans HF.out.2.2 (fun _ _ e => e)⟩
def rightB (x : S57) : Bool := kindB x && isPathB x.f2
theorem is_calls (x : S57) (w : World) (hs : x.f2.size ≤ 2147483648) : Calls Tryz.prog 56 #[.agg (encW x).toArray] w fun e w' => e = .returned (.bool (rightB x)) ∧ Below w.heap.size w w' := by
  obtain ⟨a, k, p⟩ := x
  refine Pr.lagoonref18_Is.calls (4 * p.size + 60) a k p _ w ?_
  have h1 : lagoonref18_path.f (4 * p.size + 60) p = some (isPathB p) := by
    unfold lagoonref18_path.f
    rw [refCheck_f p hs _ (Nat.le_refl _), Option.bind_some]
    unfold isPathB
    congr 1
    rw [Bool.eq_iff_iff, beq_iff_eq, beq_iff_eq]
    simp only
    omega
  unfold lagoonref18_Is.f rightB kindB
  rw [h1]
  by_cases h2 : k ≥ 1
  · by_cases h3 : k ≤ 4
    · rw [if_pos h2, if_pos h3, Option.bind_some, decide_eq_true (by exact ⟨h2, h3⟩), Bool.true_and]
    · rw [if_pos h2, if_neg h3, decide_eq_false (fun e => h3 e.2), Bool.false_and]
  · rw [if_neg h2, decide_eq_false (fun e => h2 e.1), Bool.false_and]
def eqWB (x y : S57) : Bool := y.f0 == x.f0 && (y.f1 == x.f1 && (y.f2.toList == x.f2.toList))
theorem bytes_inj {s t : ByteArray} (h : s.toList = t.toList) : s = t := by
  rw [Lib.toList_data, Lib.toList_data] at h
  cases s; cases t
  simp at h
  subst h; rfl
theorem eqWB_iff {x y : S57} : eqWB x y = true ↔ y = x := by
  obtain ⟨a, k, p⟩ := x
  obtain ⟨a', k', p'⟩ := y
  unfold eqWB
  simp only [Bool.and_eq_true, beq_iff_eq]
  constructor
  · rintro ⟨rfl, rfl, h⟩
    rw [bytes_inj h]
  · intro h
    cases h
    exact ⟨rfl, rfl, rfl⟩
end Go.Proofs.YtkhnjckkjdldbaaGreatDoor.Q
namespace Go.Proofs.YtkhnjckkjdldbaaGreatDoor.Q
open Go.RowKit Go.Proofs.YtkhnjckkjdldbaaGreatDoorW.PrintWords Go.Deep Go.Maps Go.WideShapes
open Go.Proofs.YtkhnjckkjdldbaaGreatDoor.Pr (S57 S59 z57 k57 k59 rd_T57)
open Go.Proofs.YtkhnjckkjdldbaaGreatDoor
open Go.Proofs.YtkhnjckkjdldbaaGreatDoor.Bag (own_lower Row R_of_row)
set_option linter.unusedVariables false
set_option linter.unusedSimpArgs false
attribute [local go_sem] Oper.semAt_some
attribute [local go_sem high] Pr.eqA57
/-! WATCHPARTS -/
theorem row_CW {W : World} {base : Nat} {v : Value} {xs : List S57} (h : Row encW 3 base 57 W v xs) : ∃ A c, v = .slice A xs.length c ∧ xs.length ≤ c ∧ Kd.C k57 W A xs.length xs := by
  obtain ⟨A, c, h1, h2⟩ := h.slice
  have hR := R_of_row (d := k57) rfl (fun _ => rfl) (fun w b o x => Pr.k57_mkM w b o x) h
  rw [h1] at hR
  exact ⟨A, c, h1, h2, (Kd.R_reads' hR).2.2⟩
theorem path_small {p : ByteArray} (h : isPathB p = true) : p.size ≤ 64 := by
  unfold isPathB at h
  rw [beq_iff_eq] at h
  unfold checkP at h
  split at h
  · cases h
  · split at h
    · rename_i h2
      rw [Lib.toList_data] at h2
      rw [Lib.size_eq, h2]; decide
    · split at h
      · cases h
      · split at h
        · cases h
        · omega
end Go.Proofs.YtkhnjckkjdldbaaGreatDoor.Q
