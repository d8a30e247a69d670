import Derived.Test.YtkhnjckkjdldbaaDoorK10
namespace Go.Proofs.YtkhnjckkjdldbaaDoor.Q
open Go.RowKit Go.Proofs.YtkhnjckkjdldbaaDoorW.PrintWords Go.Deep Go.Maps Go.WideShapes
open Go.Proofs.YtkhnjckkjdldbaaDoor.Pr (S30 S32 z30 k30 k32 rd_T30 lagoonref18_Is.f lagoonref18_path.f lagoonlaw18_has.f lagoonlaw18_has.l0)
open Go.Proofs.YtkhnjckkjdldbaaDoor
open Go.Proofs.YtkhnjckkjdldbaaDoor.Bag (own_lower)
set_option linter.unusedVariables false
set_option linter.unusedSimpArgs false
attribute [local go_sem] Oper.semAt_some
/-! CLEAR, DROP; IS, HAS -/
theorem clear1_calls (x : S30) (w : World) : Calls Tryd.prog 29 #[.agg (encW x).toArray] w fun e w' => e = .returned (.bool true) ∧ Below w.heap.size w w' := by
  obtain ⟨a, k, p⟩ := x
  have HB := Lib.hid (below_alloc (Below.refl w.heap.size w) (.cells #[.int .i64 a, .int .i8 k, .string p] 30))
  go_enter Tryd.func29, Tryd.ntmps29
  go_wp2
  go_ret
  exact ⟨rfl, HB.out⟩
theorem drop1_calls (x : S30) (n : Int) (dx : Nat) (w : World) (h : w.heap[dx]? = some (.cells #[.int .i64 n] 2 (0, 0))) : Calls Tryd.prog 30 #[.agg (encW x).toArray, .pointer (some ⟨dx, 0, none⟩)] w fun e w' => e = .returned (.bool (x.f0 == n)) ∧ Below w.heap.size w w' := by
  obtain ⟨a, k, p⟩ := x
  obtain ⟨W1, hW1⟩ : ∃ V, w.alloc (.cells #[.int .i64 a, .int .i8 k, .string p] 30) = V := ⟨_, rfl⟩
  have hB := below_alloc (Below.refl w.heap.size w) (.cells #[.int .i64 a, .int .i8 k, .string p] 30)
  have x0 : (w.alloc (.cells #[.int .i64 a, .int .i8 k, .string p] 30)).cell? ⟨w.heap.size, 0, none⟩ = some (.int .i64 a) := cell_rowK (k := 0) (World.alloc_heap_new w _) rfl
  have x1 : (w.alloc (.cells #[.int .i64 a, .int .i8 k, .string p] 30)).cell? ⟨dx, 0, none⟩ = some (.int .i64 n) := cell_rowK (k := 0) (blkK h hB) rfl
  have HB := Lib.hid hB
  clear hB h hW1
  go_enter Tryd.func30, Tryd.ntmps30
  go_wp2
  go_ret
  exact ⟨rfl, HB.out⟩
theorem clear_calls {c b : Nat} {came : Int} {P : WN} {w : World} (h : Brd c b came P w) (hc : came < 4611686018427387904) :
    Calls Tryd.prog 18 #[.pointer (some ⟨c, 0, none⟩)] w fun e w' => ∃ v, e = .returned v ∧ w'.ownsRow w.heap.size 30 3 v ((P.map Prod.fst).filter fun _ => true).length (((P.map Prod.fst).filter fun _ => true).flatMap encW) ∧ Brd c b came (P.filter fun p => !true) w' ∧ Only (fun k => k = b) w w' := by
  have K := Lib.hid (takeAll_calls h hc (fun _ => true) (fun x _ W _ => clear1_calls x W))
  clear h
  go_enter Tryd.func18, Tryd.ntmps18
  go_wp2_with fail
  refine K.out.mono ?_
  rintro e w1 ⟨v, rfl, h1, h2, h3⟩
  have HF := Lib.hid (And.intro h1 (And.intro h2 h3))
  clear h1 h2 h3 K
  go_wp2
  go_ret
  exact ⟨v, rfl, HF.out⟩
theorem drop_calls {c b : Nat} {came : Int} {P : WN} {w : World} (n : Int) (h : Brd c b came P w) (hc : came < 4611686018427387904) :
    Calls Tryd.prog 19 #[.pointer (some ⟨c, 0, none⟩), .int .i64 n] w fun e w' => ∃ v, e = .returned v ∧ w'.ownsRow w.heap.size 30 3 v ((P.map Prod.fst).filter fun x => x.f0 == n).length (((P.map Prod.fst).filter fun x => x.f0 == n).flatMap encW) ∧ Brd c b came (P.filter fun p => !(p.1.f0 == n)) w' ∧ Only (fun k => k = b) w w' := by
  obtain ⟨W1, hW1⟩ : ∃ V, w.alloc (.cells #[.int .i64 n] 2) = V := ⟨_, rfl⟩
  have hB1 : Below w.heap.size w W1 := by rw [← hW1]; exact below_alloc (Below.refl _ _) _
  have hz : W1.heap[w.heap.size]? = some (.cells #[.int .i64 n] 2 (0, 0)) := by rw [← hW1]; exact World.alloc_heap_new w _
  have hbb : b < w.heap.size := by obtain ⟨D, h1, _⟩ := h.map; exact h1.lt
  have K := Lib.hid (takeDrop_calls (h.below hB1) hc (fun x => x.f0 == n) w.heap.size (fun x _ W ho => drop1_calls x n w.heap.size W (ho.blk hz (fun e => by omega))))
  have HB := Lib.hid hB1
  have HW := Lib.hid hW1
  clear h hB1 hz hW1
  go_enter Tryd.func19, Tryd.ntmps19
  go_wp2_with fail
  rw [HW.out]
  refine K.out.mono ?_
  rintro e w1 ⟨v, rfl, h1, h2, h3⟩
  have HF := Lib.hid (And.intro h1 (And.intro h2 h3))
  clear h1 h2 h3 K
  go_wp2
  go_ret
  exact ⟨v, rfl, own_lower HF.out.1 HB.out.size, HF.out.2.1, (Only.of_below (S := fun k => k = b) HB.out).trans HF.out.2.2 (fun _ _ e => e)⟩
def rightB (x : S30) : Bool := kindB x && isPathB x.f2
theorem is_calls (x : S30) (w : World) (hs : x.f2.size ≤ 2147483648) : Calls Tryd.prog 10 #[.agg (encW x).toArray] w fun e w' => e = .returned (.bool (rightB x)) ∧ Below w.heap.size w w' := by
  obtain ⟨a, k, p⟩ := x
  refine Pr.lagoonref18_Is.calls (4 * p.size + 60) a k p _ w ?_
  have h1 : lagoonref18_path.f (4 * p.size + 60) p = some (isPathB p) := by
    unfold lagoonref18_path.f
    rw [refCheck_f p hs _ (Nat.le_refl _), Option.bind_some]
    unfold isPathB
    congr 1
    rw [Bool.eq_iff_iff, beq_iff_eq, beq_iff_eq]
    simp only
    omega
  unfold lagoonref18_Is.f rightB kindB
  rw [h1]
  by_cases h2 : k ≥ 1
  · by_cases h3 : k ≤ 4
    · rw [if_pos h2, if_pos h3, Option.bind_some, decide_eq_true (by exact ⟨h2, h3⟩), Bool.true_and]
    · rw [if_pos h2, if_neg h3, decide_eq_false (fun e => h3 e.2), Bool.false_and]
  · rw [if_neg h2, decide_eq_false (fun e => h2 e.1), Bool.false_and]
def eqWB (x y : S30) : Bool := y.f0 == x.f0 && (y.f1 == x.f1 && (y.f2.toList == x.f2.toList))
theorem bytes_inj {s t : ByteArray} (h : s.toList = t.toList) : s = t := by
  rw [Lib.toList_data, Lib.toList_data] at h
  cases s; cases t
  simp at h
  subst h; rfl
theorem eqWB_iff {x y : S30} : eqWB x y = true ↔ y = x := by
  obtain ⟨a, k, p⟩ := x
  obtain ⟨a', k', p'⟩ := y
  unfold eqWB
  simp only [Bool.and_eq_true, beq_iff_eq]
  constructor
  · rintro ⟨rfl, rfl, h⟩
    rw [bytes_inj h]
  · intro h
    cases h
    exact ⟨rfl, rfl, rfl⟩
theorem has_f (l : List S30) (x : S30) (hl : l.length ≤ 4294967296) : lagoonlaw18_has.f (l.length + 1) l x.f0 x.f1 x.f2 = some ((l.countP (eqWB x) : Nat) : Int) := by
  have go : ∀ d i k (n : Nat), i + d = l.length → d < k → n ≤ i → lagoonlaw18_has.l0 k l (n : Int) (i : Int) x.f0 x.f1 x.f2 = some (((n + (l.drop i).countP (eqWB x) : Nat)) : Int) := by
    intro d
    induction d with
    | zero =>
      intro i k n hi hk hn
      obtain ⟨k, rfl⟩ : ∃ m, k = m + 1 := ⟨k - 1, by omega⟩
      rw [lagoonlaw18_has.l0, if_neg (by omega), List.drop_of_length_le (by omega)]
      simp
    | succ d ih =>
      intro i k n hi hk hn
      obtain ⟨k, rfl⟩ : ∃ m, k = m + 1 := ⟨k - 1, by omega⟩
      have hlt : i < l.length := by omega
      have hr : rd_T30 l (i : Int) = l[i] := by simp [rd_T30, List.getD, List.getElem?_eq_getElem hlt]
      rw [lagoonlaw18_has.l0, if_pos (by omega), if_pos (by omega), hr, List.drop_eq_getElem_cons hlt, List.countP_cons, w64 (x := (n : Int) + 1) (by omega) (by omega), w64 (x := (i : Int) + 1) (by omega) (by omega)]
      have e1 := ih (i + 1) k (n + 1) (by omega) (by omega) (by omega)
      have e2 := ih (i + 1) k n (by omega) (by omega) (by omega)
      by_cases h : eqWB x l[i] = true
      · have h' : (l[i].f0 == x.f0 && (l[i].f1 == x.f1 && (l[i].f2.toList == x.f2.toList))) = true := h
        rw [if_pos h, if_pos h', show ((n : Int) + 1) = ((n + 1 : Nat) : Int) by omega, show ((i : Int) + 1) = ((i + 1 : Nat) : Int) by omega, e1]
        congr 2; omega
      · have h' : ¬ (l[i].f0 == x.f0 && (l[i].f1 == x.f1 && (l[i].f2.toList == x.f2.toList))) = true := h
        rw [if_neg h, if_neg h', show ((i : Int) + 1) = ((i + 1 : Nat) : Int) by omega, e2]
        rfl
  have := go l.length 0 (l.length + 1) 0 (by omega) (by omega) (by omega)
  rw [List.drop_zero, Nat.zero_add] at this
  exact this
theorem countP_one {x : S30} : ∀ {l : List S30}, l.Nodup → x ∈ l → l.countP (eqWB x) = 1
  | y :: l, hn, hx => by
    rw [List.nodup_cons] at hn
    rw [List.countP_cons]
    by_cases h : y = x
    · have h0 : l.countP (eqWB x) = 0 := by
        rw [List.countP_eq_zero]
        intro z hz he
        rw [eqWB_iff] at he
        exact hn.1 (by rw [h, ← he]; exact hz)
      rw [if_pos (eqWB_iff.2 h), h0]
    · rw [if_neg (fun e => h (eqWB_iff.1 e)), countP_one hn.2 (by rcases List.mem_cons.1 hx with e | e; exact absurd e.symm h; exact e)]
end Go.Proofs.YtkhnjckkjdldbaaDoor.Q
