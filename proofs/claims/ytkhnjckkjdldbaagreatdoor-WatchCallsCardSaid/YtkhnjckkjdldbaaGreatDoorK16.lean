import Derived.Test.YtkhnjckkjdldbaaGreatDoorK15
namespace Go.Proofs.YtkhnjckkjdldbaaGreatDoor.Q
open Go.RowKit Go.Proofs.YtkhnjckkjdldbaaGreatDoorW.PrintWords Go.Deep Go.Maps Go.WideShapes
open Go.Proofs.YtkhnjckkjdldbaaGreatDoor.Pr (S57 S59 S61 z57 k57 k59 rd_T57 rd_T61 lagoonlaw18_long.f lagoonlaw18_long.l0 lagoonlaw18_long.j1 lagoonref00_EqWatches.f lagoonref00_EqWatches.l0)
open Go.Proofs.YtkhnjckkjdldbaaGreatDoor.Bag (AppTo)
set_option linter.unusedVariables false
set_option linter.unusedSimpArgs false
/-! WATCHONCE: PLAIN LAWS -/
theorem long_f (l : List S61) : ∃ r, lagoonlaw18_long.f (2 * l.length + 2) l = some r ∧ (r = false → l.length ≤ 1073741823 ∧ ∀ x ∈ l, x.f2.f2.size ≤ 536870911 ∧ x.f3.f1.size ≤ 536870911) := by
  have go : ∀ d i n k : Nat, i + d = l.length → 2 * d + 2 ≤ k → i ≤ n → n ≤ 4294967296 → ∃ r, lagoonlaw18_long.l0 k l (n : Int) (i : Int) = some r ∧ (r = false → l.length ≤ 1073741823 ∧ ∀ j (hj : j < l.length), i ≤ j → l[j].f2.f2.size ≤ 536870911 ∧ l[j].f3.f1.size ≤ 536870911) := by
    intro d
    induction d with
    | zero =>
      intro i n k hi hk hin hn
      obtain ⟨k, rfl⟩ : ∃ m, k = m + 2 := ⟨k - 2, by omega⟩
      refine ⟨decide ((n : Int) > 1073741823), ?_, fun h => ?_⟩
      · rw [lagoonlaw18_long.l0, if_neg (by omega), lagoonlaw18_long.j1, if_neg (by simp)]
      · have h := of_decide_eq_false h
        exact ⟨by omega, fun j hj hij => by omega⟩
    | succ d ih =>
      intro i n k hi hk hin hn
      obtain ⟨k, rfl⟩ : ∃ m, k = m + 2 := ⟨k - 2, by omega⟩
      have hlt : i < l.length := by omega
      have hr : rd_T61 l (i : Int) = l[i] := by simp [rd_T61, List.getD, List.getElem?_eq_getElem hlt]
      rw [lagoonlaw18_long.l0, if_pos (by omega), lagoonlaw18_long.j1]
      by_cases hb : (n : Int) ≤ 1073741823
      · rw [if_pos (decide_eq_true hb), if_pos (by omega), if_pos (by omega), hr]
        by_cases h1 : (l[i].f2.f2.size : Int) > 536870911
        · exact ⟨true, by rw [if_pos h1], fun h => by cases h⟩
        · by_cases h2 : (l[i].f3.f1.size : Int) > 536870911
          · exact ⟨true, by rw [if_neg h1, if_pos h2], fun h => by cases h⟩
          · rw [if_neg h1, if_neg h2, w64 (x := (n : Int) + 1) (by omega) (by omega), w64 (x := (n : Int) + 1 + _) (by omega) (by omega), w64 (x := (n : Int) + 1 + _ + _) (by omega) (by omega), w64 (x := (i : Int) + 1) (by omega) (by omega)]
            obtain ⟨r, e1, e2⟩ := ih (i + 1) (n + 1 + l[i].f2.f2.size + l[i].f3.f1.size) k (by omega) (by omega) (by omega) (by omega)
            refine ⟨r, ?_, fun h => ?_⟩
            · rw [← e1]
              congr 1 <;> omega
            · obtain ⟨g1, g2⟩ := e2 h
              refine ⟨g1, fun j hj hij => ?_⟩
              by_cases e : j = i
              · subst e; omega
              · exact g2 j hj (by omega)
      · rw [if_neg (by simp only [decide_eq_true_eq]; exact hb)]
        exact ⟨decide ((n : Int) > 1073741823), rfl, fun h => absurd (of_decide_eq_false h) (by omega)⟩
  obtain ⟨r, h1, h2⟩ := go l.length 0 0 (2 * l.length + 2) (by omega) (by omega) (by omega) (by omega)
  refine ⟨r, h1, fun h => ?_⟩
  obtain ⟨g1, g2⟩ := h2 h
  refine ⟨g1, fun x hx => ?_⟩
  obtain ⟨j, hj, rfl⟩ := List.getElem_of_mem hx
  exact g2 j hj (by omega)
theorem add_cases (P : WN) (came : Int) (x : S57) : (rightB x = false ∧ addB P came x = (1, P, came)) ∨ (rightB x = true ∧ inB P x = true ∧ addB P came x = (0, P, came)) ∨ (rightB x = true ∧ inB P x = false ∧ 64 ≤ P.length ∧ addB P came x = (180, P, came)) ∨ (rightB x = true ∧ inB P x = false ∧ P.length < 64 ∧ addB P came x = (0, P ++ [(x, came)], came + 1)) := by
  unfold addB rightB
  by_cases h : kindB x = true ∧ isPathB x.f2 = true
  · rw [if_neg (by simp [h]), h.1, h.2]
    by_cases h2 : inB P x = true
    · rw [if_pos h2]; exact .inr (.inl ⟨rfl, h2, rfl⟩)
    · have h2' : inB P x = false := Bool.eq_false_iff.2 h2
      rw [if_neg h2]
      by_cases h3 : 64 ≤ P.length
      · rw [if_pos h3]; exact .inr (.inr (.inl ⟨rfl, h2', h3, rfl⟩))
      · rw [if_neg h3]; exact .inr (.inr (.inr ⟨rfl, h2', by omega, rfl⟩))
  · rw [if_pos h]
    refine .inl ⟨?_, rfl⟩
    rw [Bool.eq_false_iff]
    intro e
    rw [Bool.and_eq_true] at e
    exact h e
/-- met by a change that is one -/
noncomputable def hitB (k : Int) (p : ByteArray) (y : S57) : Bool := changeB k p && metB k p y
noncomputable def staysB (k : Int) (p : ByteArray) (y : S57) : Bool := !(hitB k p y) || !(goesB y)
theorem told_hit (k : Int) (p : ByteArray) (P : WN) : toldB k p P = (P.map Prod.fst).filter (hitB k p) := by
  unfold toldB hitB
  cases h : changeB k p with
  | true => rw [if_pos rfl]; congr 1
  | false => rw [if_neg (by simp)]; simp
theorem left_stays (k : Int) (p : ByteArray) (P : WN) : (leftB k p P).map Prod.fst = (P.map Prod.fst).filter (staysB k p) := by
  unfold leftB
  cases h : changeB k p with
  | true =>
    rw [if_pos rfl, List.filter_map]
    congr 1
    congr 1
    funext q
    simp only [outB, staysB, hitB, h, Bool.true_and, Function.comp, Bool.not_and]
  | false =>
    rw [if_neg (by simp)]
    symm
    rw [List.filter_eq_self]
    intro a _
    simp [staysB, hitB, h]
theorem left_sub (k : Int) (p : ByteArray) (P : WN) : ∀ q ∈ leftB k p P, q ∈ P := by
  unfold leftB
  intro q hq
  split at hq
  · exact (List.mem_filter.1 hq).1
  · exact hq
theorem appT_blk {W W' : World} {u : Value} {n g cap k : Nat} {o : Obj} (hA : AppTo W W' u n g cap) (hk : W.heap[k]? = some o) (hne : u.ownBlock ≠ some k) : W'.heap[k]? = some o := by
  have hlt := (Array.getElem?_eq_some_iff.1 hk).1
  rcases hA with ⟨h1, h2⟩ | ⟨_, h2⟩
  · exact (h2.block k hlt (fun e => hne (by rw [h1]; simpa [Value.ownBlock] using e.symm))).trans hk
  · exact (h2.block k hlt (by simp)).trans hk
/-- the state of WatchOnce's walk -/
structure OnceI (c b base : Nat) (w : World) (i : Nat) (v : Value) (W : World) : Prop where
  st : ∃ P came, Brd c b came P W ∧ came ≤ (i : Int) ∧ (∀ q ∈ P, rightB q.1 = true) ∧ W.ownsRow base 57 3 v P.length ((P.map Prod.fst).flatMap encW)
  bel : Below w.heap.size w W
  lo : base ≤ W.heap.size
theorem OnceI.step {c b base : Nat} {w : World} {i : Nat} {v : Value} {W W' : World} (h : OnceI c b base w i v W) (hB : Below W.heap.size W W') : OnceI c b base w (i + 1) v W' := by
  obtain ⟨P, came, h1, h2, h3, h4⟩ := h.st
  exact ⟨⟨P, came, h1.below hB, by omega, h3, own_move h4 fun k hk => hB.block k (World.ownsRow.lt h4 k hk).2⟩, below_step h.bel hB, Nat.le_trans h.lo hB.size⟩
/-- the inner loop's -/
structure LeftI (ws : World) (T : List S57) (q : S57 → Bool) (i : Nat) (v : Value) (W : World) : Prop where
  bel : Below ws.heap.size ws W
  row : W.ownsRow ws.heap.size 57 3 v ((T.take i).filter q).length (((T.take i).filter q).flatMap encW)
theorem LeftI.below {ws : World} {T : List S57} {q : S57 → Bool} {i : Nat} {v : Value} {W W' : World} (h : LeftI ws T q i v W) (hB : Below W.heap.size W W') : LeftI ws T q i v W' :=
  ⟨below_step h.bel hB, own_move h.row fun k hk => hB.block k (World.ownsRow.lt h.row k hk).2⟩
theorem filt_next {α : Type} {q : α → Bool} {T : List α} {i : Nat} (hi : i < T.length) : (T.take (i + 1)).filter q = (T.take i).filter q ++ (if q T[i] = true then [T[i]] else []) := by
  rw [List.take_add_one, List.getElem?_eq_getElem hi, List.filter_append]
  by_cases h : q T[i] = true
  · simp [h]
  · simp [h]
theorem LeftI.skip {ws : World} {T : List S57} {q : S57 → Bool} {i : Nat} {v : Value} {W : World} (h : LeftI ws T q i v W) (hi : i < T.length) (hq : q T[i] = false) : LeftI ws T q (i + 1) v W := by
  have e : (T.take (i + 1)).filter q = (T.take i).filter q := by rw [filt_next hi, if_neg (by simp [hq])]; simp
  exact ⟨h.bel, by rw [e]; exact h.row⟩
theorem LeftI.put {ws : World} {T : List S57} {q : S57 → Bool} {i : Nat} {v : Value} {W W' : World} {g cap : Nat} (h : LeftI ws T q i v W) (hi : i < T.length) (hq : q T[i] = true)
    (hown : W'.ownsRow ws.heap.size 57 3 (.slice (some ⟨g, 0, none⟩) (((T.take i).filter q).length + 1) cap) (((T.take i).filter q).length + 1) (((T.take i).filter q).flatMap encW ++ encW T[i]))
    (hA : AppTo W W' v ((T.take i).filter q).length g cap) : LeftI ws T q (i + 1) (.slice (some ⟨g, 0, none⟩) (((T.take i).filter q).length + 1) cap) W' := by
  have e : (T.take (i + 1)).filter q = (T.take i).filter q ++ [T[i]] := by rw [filt_next hi, if_pos hq]
  refine ⟨Bag.below_app h.bel (fun k hk => (World.ownsRow.lt h.row k hk).1) hA, ?_⟩
  rw [e, List.length_append, List.flatMap_append]
  simpa using hown
/-- a board and a list beside it -/
structure OnceS (c b base : Nat) (w : World) (T : List S57) (v : Value) (P : WN) (came : Int) (W : World) : Prop where
  brd : Brd c b came P W
  bel : Below w.heap.size w W
  row : W.ownsRow base 57 3 v T.length (T.flatMap encW)
  lo : base ≤ W.heap.size
theorem OnceS.below {c b base : Nat} {w : World} {T : List S57} {v : Value} {P : WN} {came : Int} {W W' : World} (h : OnceS c b base w T v P came W) (hB : Below W.heap.size W W') : OnceS c b base w T v P came W' :=
  ⟨h.brd.below hB, below_step h.bel hB, own_move h.row fun k hk => hB.block k (World.ownsRow.lt h.row k hk).2, Nat.le_trans h.lo hB.size⟩
theorem OnceI.val {c b base : Nat} {w : World} {i : Nat} {v : Value} {W : World} (h : OnceI c b base w i v W) : ∃ v', v' = v := ⟨v, rfl⟩
theorem LeftI.val {ws : World} {T : List S57} {q : S57 → Bool} {i : Nat} {v : Value} {W : World} (h : LeftI ws T q i v W) : ∃ v', v' = v := ⟨v, rfl⟩
end Go.Proofs.YtkhnjckkjdldbaaGreatDoor.Q
