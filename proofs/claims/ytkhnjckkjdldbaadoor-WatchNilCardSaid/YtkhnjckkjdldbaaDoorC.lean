import Derived.Test.YtkhnjckkjdldbaaDoorB
namespace Go.Proofs.YtkhnjckkjdldbaaDoor.Q
open Go.RowKit Go.Proofs.YtkhnjckkjdldbaaDoorW.PrintWords Go.Proofs.YtkhnjckkjdldbaaDoor.Pr
set_option linter.unusedVariables false
set_option linter.unusedSimpArgs false

theorem upLe {α : Type} {f : Nat → Option α} (hm : ∀ k, LeO (f k) (f (k + 1))) {k j : Nat} (h : k ≤ j) {r : α} (hr : f k = some r) : f j = some r := by
  induction j with
  | zero => obtain rfl : k = 0 := by omega
            exact hr
  | succ j ih =>
    by_cases e : k = j + 1
    · subst e; exact hr
    · exact hm j r (ih (by omega))
theorem toList_nil_iff (s : ByteArray) : s.toList = [] ↔ s.size = 0 := by
  rw [Lib.toList_data]
  constructor
  · intro h; rw [Lib.size_eq, h]; rfl
  · intro h; exact List.eq_nil_of_length_eq_zero (by rw [← Lib.size_eq]; exact h)
/-! A NAME'S FAULT -/
def okAt (s : ByteArray) (i : Nat) : Bool := mayB (Utf8.decode s i).1 (Utf8.decode s i).2
def wd (s : ByteArray) (i : Nat) : Nat := (Utf8.decode s i).2
theorem wd_pos {s : ByteArray} {i : Nat} : 1 ≤ wd s i := by
  unfold wd
  rw [Lib.decode_at]
  unfold Lib.decodeN
  repeat' split
  all_goals simp
theorem wd_le {s : ByteArray} {i : Nat} (h : i < s.size) : i + wd s i ≤ s.size := by
  unfold wd
  rw [Lib.decode_at]
  unfold Lib.decodeN
  repeat' split
  all_goals (simp only; omega)
theorem pt_wd (s : ByteArray) (i : Nat) : (pt s i).2 = (wd s i : Nat) := by
  unfold pt ptOf wd
  split
  · rename_i h; rw [h.2]; rfl
  · rfl
theorem pt_ok (s : ByteArray) (i : Nat) : okAt s i = true ↔ ¬ (pt s i).1 < 0 ∧ goodB (pt s i).1 = true := by
  unfold okAt pt ptOf mayB goodB
  have hw := wd_pos (s := s) (i := i)
  unfold wd at hw
  split
  · rename_i h
    rw [h.1, h.2]; simp
  · rename_i h
    simp only [decide_eq_true_eq]
    constructor
    · intro h1
      refine ⟨by omega, fun h2 => h1 ?_⟩
      rcases h2 with h2 | h2 | h2 | h2 | h2
      · exact .inr (.inl h2)
      · exact .inr (.inr (.inl h2))
      · exact .inr (.inr (.inr (.inl h2)))
      · exact .inr (.inr (.inr (.inr (.inl h2))))
      · exact .inr (.inr (.inr (.inr (.inr h2))))
    · rintro ⟨h1, h2⟩ h3
      rcases h3 with ⟨h3, h4⟩ | h3 | h3 | h3 | h3 | h3
      · exact h ⟨by omega, by omega⟩
      · exact h2 (.inl h3)
      · exact h2 (.inr (.inl h3))
      · exact h2 (.inr (.inr (.inl h3)))
      · exact h2 (.inr (.inr (.inr (.inl h3))))
      · exact h2 (.inr (.inr (.inr (.inr h3))))
def bad (s : ByteArray) (i : Nat) : Option Nat := if h : i < s.size then (if okAt s i then bad s (i + wd s i) else some i) else none
termination_by s.size - i
decreasing_by have := wd_pos (s := s) (i := i); omega
theorem bad_out {s : ByteArray} {i : Nat} (h : ¬ i < s.size) : bad s i = none := by rw [bad, dif_neg h]
theorem bad_yes {s : ByteArray} {i : Nat} (h : i < s.size) (k : okAt s i = false) : bad s i = some i := by rw [bad, dif_pos h, k]; simp
theorem bad_no {s : ByteArray} {i : Nat} (h : i < s.size) (k : okAt s i = true) : bad s i = bad s (i + wd s i) := by rw [bad, dif_pos h, if_pos k]
theorem bad_lt {s : ByteArray} {j : Nat} : ∀ {i : Nat}, bad s i = some j → i ≤ j ∧ j < s.size := by
  suffices ∀ n i, s.size - i ≤ n → bad s i = some j → i ≤ j ∧ j < s.size from fun {i} h => this _ i (Nat.le_refl _) h
  intro n
  induction n with
  | zero => intro i hi h; rw [bad_out (by omega)] at h; cases h
  | succ n ih =>
    intro i hi h
    by_cases h1 : i < s.size
    · cases h2 : okAt s i with
      | false => rw [bad_yes h1 h2] at h; obtain rfl := Option.some.inj h; exact ⟨Nat.le_refl _, h1⟩
      | true =>
        rw [bad_no h1 h2] at h
        have := wd_pos (s := s) (i := i)
        have := ih _ (by omega) h
        omega
    · rw [bad_out h1] at h; cases h
def special (s : ByteArray) : Prop := s.toList = [] ∨ s.toList = [46] ∨ s.toList = [46, 46]
instance (s : ByteArray) : Decidable (special s) := by unfold special; infer_instance
/-- the place of a name's first fault -/
def nameFault (s : ByteArray) : Option Nat :=
  if special s then some 0 else
  match bad s 0 with
  | some i => if i < 24 then some i else some 24
  | none => if 24 < s.size then some 24 else none
def nameOk (s : ByteArray) : Bool := (nameFault s).isNone
theorem nameOk_iff (s : ByteArray) : nameOk s = true ↔ ¬ special s ∧ bad s 0 = none ∧ s.size ≤ 24 := by
  unfold nameOk nameFault
  by_cases h : special s
  · simp [h]
  · rw [if_neg h]
    cases h2 : bad s 0 with
    | some i => by_cases h3 : i < 24 <;> simp [h3]
    | none => by_cases h3 : 24 < s.size <;> simp [h3, h] <;> omega
theorem nameFault_le {s : ByteArray} {j : Nat} (h : nameFault s = some j) : j ≤ s.size ∧ j ≤ 24 := by
  unfold nameFault at h
  by_cases h1 : special s
  · rw [if_pos h1] at h; obtain rfl := Option.some.inj h; omega
  · rw [if_neg h1] at h
    cases h2 : bad s 0 with
    | some i =>
      have := bad_lt h2
      rw [h2] at h
      by_cases h3 : i < 24
      · simp [h3] at h; omega
      · simp [h3] at h; omega
    | none =>
      rw [h2] at h
      by_cases h3 : 24 < s.size
      · simp [h3] at h; omega
      · simp [h3] at h
theorem name_l0 (s : ByteArray) (hs : s.size ≤ 4294967296) : ∀ n i k, s.size - i ≤ n → i ≤ s.size → 13 + n ≤ k → lagoonref05_Name.l0 k s (i : Nat) = some (bad s i).isNone := by
  intro n
  induction n with
  | zero =>
    intro i k hi h1 hk
    obtain ⟨k, rfl⟩ : ∃ j, k = j + 1 := ⟨k - 1, by omega⟩
    rw [lagoonref05_Name.l0, if_neg (by omega), bad_out (by omega)]; rfl
  | succ n ih =>
    intro i k hi h1 hk
    obtain ⟨k, rfl⟩ : ∃ j, k = j + 1 := ⟨k - 1, by omega⟩
    by_cases h2 : i < s.size
    · have hp : lagoonref05_Point.f k s (i : Nat) = some (pt s i) := upLe (fun k => lagoonref05_Point.mono s _ k) (by omega) (point_f s i hs h2)
      have hw := wd_pos (s := s) (i := i)
      have hw2 := wd_le h2
      rw [lagoonref05_Name.l0, if_pos (by omega), hp, Option.bind_some, pt_wd]
      cases h3 : okAt s i with
      | true =>
        obtain ⟨h4, h5⟩ := (pt_ok s i).1 h3
        rw [if_neg (by omega), good_f, Option.bind_some, if_pos h5, bad_no h2 h3, w64 (by omega) (by omega)]
        have := ih (i + wd s i) k (by omega) hw2 (by omega)
        rw [← this]; congr 1
      | false =>
        rw [bad_yes h2 h3]
        by_cases h4 : (pt s i).1 = -1
        · rw [if_pos h4]; rfl
        · rw [if_neg h4, good_f, Option.bind_some]
          have : ¬ goodB (pt s i).1 = true := fun h5 => by
            have h6 : ¬ (pt s i).1 < 0 := by
              unfold pt ptOf at h4 ⊢
              split at h4
              · simp at h4
              · rename_i h7; rw [if_neg h7]; simp only; omega
            have := (pt_ok s i).2 ⟨h6, h5⟩
            rw [h3] at this; cases this
          rw [if_neg this]; rfl
    · rw [lagoonref05_Name.l0, if_neg (by omega), bad_out h2]; rfl
theorem name_f (s : ByteArray) (hs : s.size ≤ 4294967296) (k : Nat) (hk : s.size + 20 ≤ k) : lagoonref05_Name.f k s = some (nameOk s) := by
  obtain ⟨k, rfl⟩ : ∃ j, k = j + 1 := ⟨k - 1, by omega⟩
  have hT : lagoonref05_Name.j0 (k + 1) s true = some false := by rw [lagoonref05_Name.j0, if_pos rfl]
  have hF : lagoonref05_Name.j0 (k + 1) s false = some (bad s 0).isNone := by
    rw [lagoonref05_Name.j0, if_neg (by simp)]
    exact name_l0 s hs s.size 0 k (by omega) (by omega) (by omega)
  have hn : nameOk s = false ∨ nameOk s = true := by cases nameOk s <;> simp
  unfold lagoonref05_Name.f
  have hi := nameOk_iff s
  have hz := toList_nil_iff s
  unfold special at hi
  by_cases c1 : (s.size : Int) < 1
  · rw [if_pos c1, hT]
    have : ¬ nameOk s = true := fun h => (hi.1 h).1 (.inl (hz.2 (by omega)))
    rcases hn with h | h
    · rw [h]
    · exact absurd h this
  rw [if_neg c1]
  by_cases c2 : (s.size : Int) > 24
  · rw [if_pos c2, hT]
    have : ¬ nameOk s = true := fun h => by have := (hi.1 h).2.2; omega
    rcases hn with h | h
    · rw [h]
    · exact absurd h this
  rw [if_neg c2]
  by_cases c3 : s.toList = [46]
  · rw [if_pos c3, hT]
    have : ¬ nameOk s = true := fun h => (hi.1 h).1 (.inr (.inl c3))
    rcases hn with h | h
    · rw [h]
    · exact absurd h this
  rw [if_neg c3]
  by_cases c4 : s.toList = [46, 46]
  · have c4' : (s.toList == [46, 46]) = true := beq_iff_eq.mpr c4
    rw [c4', hT]
    have : ¬ nameOk s = true := fun h => (hi.1 h).1 (.inr (.inr c4))
    rcases hn with h | h
    · rw [h]
    · exact absurd h this
  have c4' : (s.toList == [46, 46]) = false := beq_eq_false_iff_ne.mpr c4
  rw [c4', hF]
  have hns : ¬ (s.toList = [] ∨ s.toList = [46] ∨ s.toList = [46, 46]) := by
    rintro (h | h | h)
    · have := hz.1 h; omega
    · exact c3 h
    · exact c4 h
  cases hb : bad s 0 with
  | none => rw [hi.2 ⟨hns, hb, by omega⟩]; rfl
  | some j =>
    rcases hn with h | h
    · rw [h]; rfl
    · have := (hi.1 h).2.1; rw [hb] at this; cases this

/-! THE REFERENCE'S fault -/
def minFault (s : ByteArray) (frm least : Int) : Int := match nameFault s with
  | none => least
  | some j => min least (frm + j)
theorem fault_l0 (s : ByteArray) (hs : s.size ≤ 4294967296) (frm least : Int) (hf0 : 0 ≤ frm) (hf1 : frm ≤ 4294967296) : ∀ n i k, s.size - i ≤ n → i ≤ s.size → 15 + 2 * n ≤ k →
    lagoonref05_fault.l0 k s frm least (i : Nat) = some (match bad s i with | none => least | some j => min least (frm + j)) := by
  intro n
  induction n with
  | zero =>
    intro i k hi h1 hk
    obtain ⟨k, rfl⟩ : ∃ j, k = j + 1 := ⟨k - 1, by omega⟩
    rw [lagoonref05_fault.l0, if_neg (by omega), bad_out (by omega)]
  | succ n ih =>
    intro i k hi h1 hk
    obtain ⟨k, rfl⟩ : ∃ j, k = j + 1 := ⟨k - 1, by omega⟩
    by_cases h2 : i < s.size
    · have hp : lagoonref05_Point.f k s (i : Nat) = some (pt s i) := upLe (fun k => lagoonref05_Point.mono s _ k) (by omega) (point_f s i hs h2)
      have hw := wd_pos (s := s) (i := i)
      have hw2 := wd_le h2
      have hj : ∀ b, lagoonref05_fault.j5 k s frm least i (pt s i).2 b = if b = true then some (min least (frm + i)) else lagoonref05_fault.l0 (k - 1) s frm least ((i + wd s i : Nat) : Int) := fun b => by
        obtain ⟨k, rfl⟩ : ∃ j, k = j + 1 := ⟨k - 1, by omega⟩
        rw [lagoonref05_fault.j5, pt_wd, w64 (x := frm + i) (by omega) (by omega), w64 (x := (i : Int) + _) (by omega) (by omega)]
        cases b with
        | false => rfl
        | true =>
          rw [if_pos rfl, if_pos rfl]
          by_cases h : frm + i < least
          · rw [if_pos h, Int.min_eq_right (by omega)]
          · rw [if_neg h, Int.min_eq_left (by omega)]
      rw [lagoonref05_fault.l0, if_pos (by omega), hp, Option.bind_some]
      cases h3 : okAt s i with
      | true =>
        obtain ⟨h4, h5⟩ := (pt_ok s i).1 h3
        rw [if_neg h4, good_f, Option.bind_some, h5, hj, bad_no h2 h3]
        exact ih (i + wd s i) (k - 1) (by omega) hw2 (by omega)
      | false =>
        rw [bad_yes h2 h3]
        by_cases h4 : (pt s i).1 < 0
        · rw [if_pos h4, hj]; rfl
        · rw [if_neg h4, good_f, Option.bind_some, hj]
          have : goodB (pt s i).1 = false := by
            cases h5 : goodB (pt s i).1 with
            | false => rfl
            | true => have := (pt_ok s i).2 ⟨h4, h5⟩; rw [h3] at this; cases this
          rw [this]; rfl
    · rw [lagoonref05_fault.l0, if_neg (by omega), bad_out h2]
theorem fault_f (s : ByteArray) (hs : s.size ≤ 4294967296) (frm least : Int) (hf0 : 0 ≤ frm) (hf1 : frm ≤ 4294967296) (k : Nat) (hk : 2 * s.size + 30 ≤ k) :
    lagoonref05_fault.f k s frm least = some (minFault s frm least) := by
  obtain ⟨k, rfl⟩ : ∃ j, k = j + 4 := ⟨k - 4, by omega⟩
  have h3 : ∀ x, lagoonref05_fault.j3 (k + 1) s frm x = some (match bad s 0 with | none => x | some j => min x (frm + j)) := fun x => by
    rw [lagoonref05_fault.j3]
    exact fault_l0 s hs frm x hf0 hf1 s.size 0 k (by omega) (by omega) (by omega)
  have h1 : ∀ x, lagoonref05_fault.j1 (k + 3) s frm x = some (match bad s 0 with | none => (if 24 < s.size then min x (frm + 24) else x) | some j => min (if 24 < s.size then min x (frm + 24) else x) (frm + j)) := fun x => by
    rw [lagoonref05_fault.j1, w64 (x := frm + 24) (by omega) (by omega)]
    by_cases c : (s.size : Int) > 24
    · rw [if_pos c, lagoonref05_fault.j2, w64 (x := frm + 24) (by omega) (by omega), if_pos (show 24 < s.size by omega)]
      by_cases c2 : frm + 24 < x
      · rw [if_pos (decide_eq_true c2), h3, Int.min_eq_right (by omega)]
      · rw [if_neg (by simpa using c2), h3, Int.min_eq_left (by omega)]
    · rw [if_neg c, lagoonref05_fault.j2, if_neg (by simp), h3, if_neg (show ¬ 24 < s.size by omega)]
  have h0 : ∀ b, lagoonref05_fault.j0 (k + 4) s frm least b = lagoonref05_fault.j1 (k + 3) s frm (if b = true then frm else least) := fun b => by
    rw [lagoonref05_fault.j0]
    cases b <;> rfl
  have hsp : special s → lagoonref05_fault.f (k + 4) s frm least = lagoonref05_fault.j1 (k + 3) s frm (min least frm) := fun h => by
    have e : lagoonref05_fault.j0 (k + 4) s frm least (decide (frm < least)) = lagoonref05_fault.j1 (k + 3) s frm (min least frm) := by
      rw [h0]
      by_cases c : frm < least
      · rw [if_pos (decide_eq_true c), Int.min_eq_right (by omega)]
      · rw [if_neg (by simpa using c), Int.min_eq_left (by omega)]
    unfold lagoonref05_fault.f
    rcases h with h | h | h
    · rw [if_pos h, e]
    · rw [if_neg (by rw [h]; simp), if_pos h, e]
    · rw [if_neg (by rw [h]; simp), if_neg (by rw [h]; simp), if_pos h, e]
  have hns : ¬ special s → lagoonref05_fault.f (k + 4) s frm least = lagoonref05_fault.j1 (k + 3) s frm least := fun h => by
    unfold lagoonref05_fault.f
    rw [if_neg (fun x => h (.inl x)), if_neg (fun x => h (.inr (.inl x))), if_neg (fun x => h (.inr (.inr x))), h0]; rfl
  unfold minFault nameFault
  by_cases c : special s
  · rw [hsp c, h1, if_pos c]
    cases hb : bad s 0 with
    | none => simp only; congr 1; split <;> omega
    | some j => simp only; congr 1; split <;> omega
  · rw [hns c, h1, if_neg c]
    cases hb : bad s 0 with
    | none =>
      by_cases c2 : 24 < s.size
      · simp [c2]
      · simp [c2]
    | some j =>
      have := bad_lt hb
      by_cases c3 : j < 24
      · simp only [c3, if_true]; congr 1; split <;> omega
      · have c2 : 24 < s.size := by omega
        simp only [c2, c3, if_true, if_false]; congr 1; omega
end Go.Proofs.YtkhnjckkjdldbaaDoor.Q
