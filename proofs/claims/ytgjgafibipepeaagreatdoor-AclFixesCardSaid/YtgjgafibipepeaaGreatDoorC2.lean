import Derived.Test.YtgjgafibipepeaaGreatDoorPr0
import Derived.Test.YtgjgafibipepeaaGreatDoorPr1
import Derived.Test.YtgjgafibipepeaaGreatDoorPr2
import Derived.Test.YtgjgafibipepeaaGreatDoorPr3
import Derived.Test.YtgjgafibipepeaaGreatDoorPr4
import Derived.Test.YtgjgafibipepeaaGreatDoorPr5
import Derived.Test.YtgjgafibipepeaaGreatDoorPr6
import Derived.Test.YtgjgafibipepeaaGreatDoorPr7
import Derived.Test.YtgjgafibipepeaaGreatDoorPr8
import Derived.Test.YtgjgafibipepeaaGreatDoorPr9
import Derived.Test.YtgjgafibipepeaaGreatDoorB4
namespace Go.Proofs.YtgjgafibipepeaaGreatDoor.Q
open Go.RowKit Go.Proofs.YtgjgafibipepeaaGreatDoorW.PrintWords Go.Lib
open Go.Proofs.YtgjgafibipepeaaGreatDoor.Pr
set_option linter.unusedVariables false
set_option linter.unusedSimpArgs false
/-! THE REFERENCE: CHECK, CHECKIDS -/

theorem rdE {l : List S41} {i : Nat} (h : i < l.length) : rd_T41 l (i : Int) = l[i] := by simp [rd_T41, List.getD, List.getElem?_eq_getElem h]
theorem rdI {l : List S39} {i : Nat} (h : i < l.length) : rd_T39 l (i : Int) = l[i] := by simp [rd_T39, List.getD, List.getElem?_eq_getElem h]
theorem take_drop_cons {α : Type} {l : List α} {i j : Nat} (hj : j < i) (hi : i ≤ l.length) : (l.take i).drop j = l[j]'(by omega) :: (l.take i).drop (j + 1) := by
  rw [List.drop_eq_getElem_cons (by rw [List.length_take]; omega)]
  simp
open Classical in
theorem ck_l1 (l : List S41) (hl : l.length ≤ 4294967296) {i : Nat} (hi : i < l.length) : ∀ d j k, j + d = i →
    lagoonref06_Check.l1 (k + d + 1) l i j = if l[i] ∈ (l.take i).drop j then some 60 else lagoonref06_Check.l0 k l ((i + 1 : Nat) : Int) := by
  intro d
  induction d with
  | zero =>
    intro j k hj
    rw [lagoonref06_Check.l1, if_neg (by omega), w64 (by omega) (by omega), List.drop_of_length_le (by rw [List.length_take]; omega), if_neg List.not_mem_nil]
    rfl
  | succ d ih =>
    intro j k hj
    have hlt : j < l.length := by omega
    rw [show k + (d + 1) + 1 = (k + d + 1) + 1 by omega, lagoonref06_Check.l1, if_pos (by omega), if_pos (by omega), if_pos (by omega), if_pos (by omega), if_pos (by omega), rdE hlt, rdE hi, take_drop_cons (by omega) (by omega)]
    have he : ((l[j].f0 == l[i].f0 && ((l[j].f1.f0.toList == l[i].f1.f0.toList) && (l[j].f1.f1.toList == l[i].f1.f1.toList))) = true) ↔ l[i] = l[j] := by
      have := @eqE_iff l[j] l[i]
      unfold eqE at this
      rw [this]; exact eq_comm
    by_cases h : l[i] = l[j]
    · rw [if_pos (he.2 h), if_pos (by rw [h]; exact List.mem_cons_self)]
    · rw [if_neg (fun e => h (he.1 e)), w64 (by omega) (by omega)]
      have := ih (j + 1) k (by omega)
      rw [show ((j : Int) + 1) = ((j + 1 : Nat) : Int) by omega, this]
      simp only [List.mem_cons, h, false_or]
theorem ck_l0 (l : List S41) (hl : l.length ≤ 4) (hs : ∀ x ∈ l, smE x) : ∀ d i k, i + d = l.length → 536871000 + 10 * d + 1 ≤ k →
    ∃ r : Int, lagoonref06_Check.l0 k l (i : Int) = some r ∧ (r = 0 ∨ r = 60) ∧ (r = 0 ↔ ∀ j, i ≤ j → (h : j < l.length) → ent l[j] = true ∧ l[j] ∉ l.take j) := by
  intro d
  induction d with
  | zero =>
    intro i k hi hk
    obtain ⟨k, rfl⟩ : ∃ m, k = m + 1 := ⟨k - 1, by omega⟩
    rw [lagoonref06_Check.l0, if_neg (by omega)]
    exact ⟨0, rfl, .inl rfl, fun _ j h1 h2 => absurd h2 (by omega), fun _ => rfl⟩
  | succ d ih =>
    intro i k hi hk
    have hlt : i < l.length := by omega
    obtain ⟨k, rfl⟩ : ∃ m, k = m + i + 1 + 1 + 1 := ⟨k - i - 3, by omega⟩
    have hx := hs _ (List.getElem_mem hlt)
    rw [lagoonref06_Check.l0, if_pos (by omega), if_pos (by omega), rdE hlt, entry_f _ _ (by have := hx.2; omega) _ (by have := hx.2; omega), Option.bind_some]
    have hbad : ent l[i] = false → (∀ j, i ≤ j → (h : j < l.length) → ent l[j] = true ∧ l[j] ∉ l.take j) → False := fun h h2 => by
      have := (h2 i (Nat.le_refl _) hlt).1
      rw [h] at this; cases this
    have key : (if entryB l[i].f1.f0.data.toList l[i].f1.f1.data.toList = true then (if l[i].f0 < 1 then lagoonref06_Check.j1 (k + i + 1 + 1) l i true else lagoonref06_Check.j1 (k + i + 1 + 1) l i (decide (l[i].f0 > 31))) else lagoonref06_Check.j1 (k + i + 1 + 1) l i true) = lagoonref06_Check.j1 (k + i + 1 + 1) l i (!ent l[i]) := by
      unfold ent entI
      cases h1 : entryB l[i].f1.f0.data.toList l[i].f1.f1.data.toList with
      | false => simp
      | true =>
        rw [if_pos rfl]
        by_cases h2 : l[i].f0 < 1
        · rw [if_pos h2, decide_eq_false (show ¬ 1 ≤ l[i].f0 by omega)]; simp
        · rw [if_neg h2, decide_eq_true (show 1 ≤ l[i].f0 by omega)]
          by_cases h3 : l[i].f0 ≤ 31
          · rw [decide_eq_true h3, decide_eq_false (show ¬ l[i].f0 > 31 by omega)]; rfl
          · rw [decide_eq_false h3, decide_eq_true (show l[i].f0 > 31 by omega)]; rfl
    rw [key, lagoonref06_Check.j1]
    cases he : ent l[i] with
    | false => rw [if_pos (by rfl)]; exact ⟨60, rfl, .inr rfl, fun h => by omega, fun h => (hbad he h).elim⟩
    | true =>
      rw [if_neg (by simp)]
      have := ck_l1 l (by omega) hlt i 0 k (by omega)
      rw [List.drop_zero] at this
      rw [show ((0 : Nat) : Int) = 0 from rfl] at this
      rw [this]
      by_cases hm : l[i] ∈ l.take i
      · rw [if_pos hm]
        exact ⟨60, rfl, .inr rfl, fun h => by omega, fun h => absurd hm (h i (Nat.le_refl _) hlt).2⟩
      · rw [if_neg hm]
        obtain ⟨r, h1, h2, h3⟩ := ih (i + 1) k (by omega) (by omega)
        refine ⟨r, h1, h2, h3.trans ⟨fun h j hj hl2 => ?_, fun h j hj hl2 => h j (by omega) hl2⟩⟩
        by_cases e : j = i
        · subst e; exact ⟨he, hm⟩
        · exact h j (by omega) hl2
def okI (b : Bool) : Int := if b = true then 0 else 60
theorem getD_at {α : Type} {l : List α} {z : α} {j : Nat} (h : j < l.length) : l.getD j z = l[j] := by simp [List.getD, List.getElem?_eq_getElem h]
theorem check_f (l : List S41) (hs : ∀ x ∈ l, smE x) (k : Nat) (hk : 536871000 + 50 ≤ k) : lagoonref06_Check.f k l = some (okI (checkB l)) := by
  unfold lagoonref06_Check.f
  by_cases h4 : (l.length : Int) > 4
  · rw [if_pos h4]
    have : checkB l = false := Bool.eq_false_iff.2 fun h => by have := checkB_le h; omega
    rw [this]; rfl
  · rw [if_neg h4]
    obtain ⟨r, h1, h2, h3⟩ := ck_l0 l (by omega) hs l.length 0 k (by omega) (by omega)
    rw [show (0 : Int) = ((0 : Nat) : Int) from rfl, h1]
    have hc : checkB l = true ↔ r = 0 := by
      rw [h3, checkB_iff, nodup_take l z41]
      constructor
      · rintro ⟨_, h5, h6⟩ j _ hj
        have := h5 j hj
        rw [getD_at hj] at this
        exact ⟨h6 _ (List.getElem_mem hj), this⟩
      · intro h
        refine ⟨by omega, fun j hj => ?_, fun x hx => ?_⟩
        · rw [getD_at hj]; exact (h j (Nat.zero_le _) hj).2
        · obtain ⟨j, hj, rfl⟩ := List.mem_iff_getElem.1 hx
          exact (h j (Nat.zero_le _) hj).1
    cases hb : checkB l with
    | true => rw [hc.1 hb]; rfl
    | false =>
      rcases h2 with h2 | h2
      · rw [hc.2 h2] at hb; cases hb
      · rw [h2]; rfl
open Classical in
theorem cki_l1 (l : List S39) (hl : l.length ≤ 4294967296) {i : Nat} (hi : i < l.length) : ∀ d j k, j + d = i →
    lagoonref06_CheckIds.l1 (k + d + 1) l i j = if l[i] ∈ (l.take i).drop j then some 60 else lagoonref06_CheckIds.l0 k l ((i + 1 : Nat) : Int) := by
  intro d
  induction d with
  | zero =>
    intro j k hj
    rw [lagoonref06_CheckIds.l1, if_neg (by omega), w64 (by omega) (by omega), List.drop_of_length_le (by rw [List.length_take]; omega), if_neg List.not_mem_nil]
    rfl
  | succ d ih =>
    intro j k hj
    have hlt : j < l.length := by omega
    rw [show k + (d + 1) + 1 = (k + d + 1) + 1 by omega, lagoonref06_CheckIds.l1, if_pos (by omega), if_pos (by omega), if_pos (by omega), if_pos (by omega), if_pos (by omega), rdI hlt, rdI hi, take_drop_cons (by omega) (by omega)]
    have he : (((l[j].f0.toList == l[i].f0.toList) && (l[j].f1.toList == l[i].f1.toList)) = true) ↔ l[i] = l[j] := by
      have := @eqI_iff l[j] l[i]
      unfold eqI at this
      rw [this]; exact eq_comm
    by_cases h : l[i] = l[j]
    · rw [if_pos (he.2 h), if_pos (by rw [h]; exact List.mem_cons_self)]
    · rw [if_neg (fun e => h (he.1 e)), w64 (by omega) (by omega)]
      have := ih (j + 1) k (by omega)
      rw [show ((j : Int) + 1) = ((j + 1 : Nat) : Int) by omega, this]
      simp only [List.mem_cons, h, false_or]
theorem cki_l0 (l : List S39) (hl : l.length ≤ 4) (hs : ∀ x ∈ l, smI x) : ∀ d i k, i + d = l.length → 536871000 + 10 * d + 1 ≤ k →
    ∃ r : Int, lagoonref06_CheckIds.l0 k l (i : Int) = some r ∧ (r = 0 ∨ r = 60) ∧ (r = 0 ↔ ∀ j, i ≤ j → (h : j < l.length) → cli l[j] = true ∧ l[j] ∉ l.take j) := by
  intro d
  induction d with
  | zero =>
    intro i k hi hk
    obtain ⟨k, rfl⟩ : ∃ m, k = m + 1 := ⟨k - 1, by omega⟩
    rw [lagoonref06_CheckIds.l0, if_neg (by omega)]
    exact ⟨0, rfl, .inl rfl, fun _ j h1 h2 => absurd h2 (by omega), fun _ => rfl⟩
  | succ d ih =>
    intro i k hi hk
    have hlt : i < l.length := by omega
    obtain ⟨k, rfl⟩ : ∃ m, k = m + i + 1 + 1 := ⟨k - i - 2, by omega⟩
    have hx := hs _ (List.getElem_mem hlt)
    rw [lagoonref06_CheckIds.l0, if_pos (by omega), if_pos (by omega), rdI hlt, client_f _ _ (by have := hx.2; omega) _ (by have := hx.2; omega), Option.bind_some]
    change ∃ r : Int, (if cli l[i] = true then _ else _) = some r ∧ _
    cases he : cli l[i] with
    | false =>
      rw [if_neg (by simp)]
      exact ⟨60, rfl, .inr rfl, fun h => by omega, fun h => by have := (h i (Nat.le_refl _) hlt).1; rw [he] at this; cases this⟩
    | true =>
      rw [if_pos rfl]
      have := cki_l1 l (by omega) hlt i 0 k (by omega)
      rw [List.drop_zero] at this
      rw [show ((0 : Nat) : Int) = 0 from rfl] at this
      rw [this]
      by_cases hm : l[i] ∈ l.take i
      · rw [if_pos hm]
        exact ⟨60, rfl, .inr rfl, fun h => by omega, fun h => absurd hm (h i (Nat.le_refl _) hlt).2⟩
      · rw [if_neg hm]
        obtain ⟨r, h1, h2, h3⟩ := ih (i + 1) k (by omega) (by omega)
        refine ⟨r, h1, h2, h3.trans ⟨fun h j hj hl2 => ?_, fun h j hj hl2 => h j (by omega) hl2⟩⟩
        by_cases e : j = i
        · subst e; exact ⟨he, hm⟩
        · exact h j (by omega) hl2
theorem checkIds_f (l : List S39) (hs : ∀ x ∈ l, smI x) (k : Nat) (hk : 536871000 + 50 ≤ k) : lagoonref06_CheckIds.f k l = some (okI (checkIB l)) := by
  unfold lagoonref06_CheckIds.f
  by_cases h4 : (l.length : Int) > 4
  · rw [if_pos h4]
    have : checkIB l = false := Bool.eq_false_iff.2 fun h => by have := checkIB_le h; omega
    rw [this]; rfl
  · rw [if_neg h4]
    obtain ⟨r, h1, h2, h3⟩ := cki_l0 l (by omega) hs l.length 0 k (by omega) (by omega)
    rw [show (0 : Int) = ((0 : Nat) : Int) from rfl, h1]
    have hc : checkIB l = true ↔ r = 0 := by
      rw [h3, checkIB_iff, nodup_take l z39]
      constructor
      · rintro ⟨_, h5, h6⟩ j _ hj
        have := h5 j hj
        rw [getD_at hj] at this
        exact ⟨h6 _ (List.getElem_mem hj), this⟩
      · intro h
        refine ⟨by omega, fun j hj => ?_, fun x hx => ?_⟩
        · rw [getD_at hj]; exact (h j (Nat.zero_le _) hj).2
        · obtain ⟨j, hj, rfl⟩ := List.mem_iff_getElem.1 hx
          exact (h j (Nat.zero_le _) hj).1
    cases hb : checkIB l with
    | true => rw [hc.1 hb]; rfl
    | false =>
      rcases h2 with h2 | h2
      · rw [hc.2 h2] at hb; cases hb
      · rw [h2]; rfl
end Go.Proofs.YtgjgafibipepeaaGreatDoor.Q
