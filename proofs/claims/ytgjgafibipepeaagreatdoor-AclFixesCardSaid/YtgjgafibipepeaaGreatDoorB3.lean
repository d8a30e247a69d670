import Derived.Test.YtgjgafibipepeaaGreatDoorQf
import Derived.Test.YtgjgafibipepeaaGreatDoorB2
namespace Go.Proofs.YtgjgafibipepeaaGreatDoor.Q
open Go.RowKit Go.Proofs.YtgjgafibipepeaaGreatDoorW.PrintWords Go.Deep Go.Maps Go.WideShapes Go.Lib
open Go.Proofs.YtgjgafibipepeaaGreatDoor.Pr (S39 S41 k39 k41 z39 z41 rd_T39 rd_T41 lagoonlaw06_long.f lagoonlaw06_long.l0 lagoonlaw06_long.l1 lagoonlaw06_long.j1 lagoonlaw06_long.j3)
open Go.Proofs.YtgjgafibipepeaaGreatDoor
set_option linter.unusedVariables false
set_option linter.unusedSimpArgs false
attribute [local go_sem] Oper.semAt_some
/-! LONG -/
theorem long_l1 (who : List S39) (hw : who.length ≤ 9223372036854775807) : ∀ (d i : Nat) (n : Int) (k : Nat), i + d = who.length → 2 * d + 2 ≤ k → 0 ≤ n → n ≤ 8589934592 →
    ∃ r, lagoonlaw06_long.l1 k who n i = some r ∧ (r = false → (∀ x ∈ who.drop i, smI x) ∧ n + d ≤ 1073741823) := by
  intro d
  induction d with
  | zero =>
    intro i n k hi hk h0 h1
    obtain ⟨k, rfl⟩ : ∃ j, k = j + 2 := ⟨k - 2, by omega⟩
    rw [lagoonlaw06_long.l1, if_neg (by omega), lagoonlaw06_long.j3, if_neg (by simp)]
    refine ⟨_, rfl, fun h => ?_⟩
    have := of_decide_eq_false h
    rw [List.drop_of_length_le (by omega)]
    exact ⟨fun x hx => absurd hx List.not_mem_nil, by omega⟩
  | succ d ih =>
    intro i n k hi hk h0 h1
    obtain ⟨k, rfl⟩ : ∃ j, k = j + 2 := ⟨k - 2, by omega⟩
    have hlt : i < who.length := by omega
    rw [lagoonlaw06_long.l1, if_pos (by omega), lagoonlaw06_long.j3]
    by_cases hn : n ≤ 1073741823
    · rw [if_pos (decide_eq_true hn), if_pos (by omega), if_pos (by omega)]
      have hr : rd_T39 who (i : Int) = who[i] := by simp [rd_T39, List.getD, List.getElem?_eq_getElem hlt]
      rw [hr, List.drop_eq_getElem_cons hlt]
      obtain ⟨x, hx⟩ : ∃ x, who[i] = x := ⟨_, rfl⟩
      rw [hx]
      by_cases c1 : (x.f0.size : Int) > 536870911
      · rw [if_pos c1]; exact ⟨true, rfl, fun h => by cases h⟩
      · rw [if_neg c1]
        by_cases c2 : (x.f1.size : Int) > 536870911
        · rw [if_pos c2]; exact ⟨true, rfl, fun h => by cases h⟩
        · rw [if_neg c2, w64 (x := n + 1) (by omega) (by omega), w64 (x := n + 1 + _) (by omega) (by omega), w64 (x := _ + (x.f1.size : Int)) (by omega) (by omega), w64 (x := (i : Int) + 1) (by omega) (by omega)]
          obtain ⟨r, h2, h3⟩ := ih (i + 1) (n + 1 + x.f0.size + x.f1.size) k (by omega) (by omega) (by omega) (by omega)
          refine ⟨r, by rw [← h2]; rfl, fun h => ?_⟩
          obtain ⟨h4, h5⟩ := h3 h
          refine ⟨fun y hy => ?_, by omega⟩
          rcases List.mem_cons.1 hy with rfl | hy
          · exact ⟨by omega, by omega⟩
          · exact h4 y hy
    · rw [if_neg (by rw [decide_eq_false hn]; simp)]
      refine ⟨true, by rw [decide_eq_true (by omega)], fun h => by cases h⟩
theorem long_l0 (l : List S41) (who : List S39) (hl : l.length ≤ 9223372036854775807) (hw : who.length ≤ 9223372036854775807) : ∀ (d i : Nat) (n : Int) (k : Nat), i + d = l.length → 2 * d + 2 * who.length + 4 ≤ k → 0 ≤ n → n ≤ 8589934592 →
    ∃ r, lagoonlaw06_long.l0 k l who n i = some r ∧ (r = false → (∀ x ∈ l.drop i, smE x) ∧ (∀ x ∈ who, smI x) ∧ n + d + who.length ≤ 1073741823) := by
  intro d
  induction d with
  | zero =>
    intro i n k hi hk h0 h1
    obtain ⟨k, rfl⟩ : ∃ j, k = j + 2 := ⟨k - 2, by omega⟩
    rw [lagoonlaw06_long.l0, if_neg (by omega), lagoonlaw06_long.j1, if_neg (by simp)]
    obtain ⟨r, h2, h3⟩ := long_l1 who hw who.length 0 n k (by omega) (by omega) h0 h1
    refine ⟨r, h2, fun h => ?_⟩
    obtain ⟨h4, h5⟩ := h3 h
    rw [List.drop_of_length_le (by omega)]
    exact ⟨fun x hx => absurd hx List.not_mem_nil, h4, by omega⟩
  | succ d ih =>
    intro i n k hi hk h0 h1
    obtain ⟨k, rfl⟩ : ∃ j, k = j + 2 := ⟨k - 2, by omega⟩
    have hlt : i < l.length := by omega
    rw [lagoonlaw06_long.l0, if_pos (by omega), lagoonlaw06_long.j1]
    by_cases hn : n ≤ 1073741823
    · rw [if_pos (decide_eq_true hn), if_pos (by omega), if_pos (by omega)]
      have hr : rd_T41 l (i : Int) = l[i] := by simp [rd_T41, List.getD, List.getElem?_eq_getElem hlt]
      rw [hr, List.drop_eq_getElem_cons hlt]
      obtain ⟨x, hx⟩ : ∃ x, l[i] = x := ⟨_, rfl⟩
      rw [hx]
      by_cases c1 : (x.f1.f0.size : Int) > 536870911
      · rw [if_pos c1]; exact ⟨true, rfl, fun h => by cases h⟩
      · rw [if_neg c1]
        by_cases c2 : (x.f1.f1.size : Int) > 536870911
        · rw [if_pos c2]; exact ⟨true, rfl, fun h => by cases h⟩
        · rw [if_neg c2, w64 (x := n + 1) (by omega) (by omega), w64 (x := n + 1 + _) (by omega) (by omega), w64 (x := _ + (x.f1.f1.size : Int)) (by omega) (by omega), w64 (x := (i : Int) + 1) (by omega) (by omega)]
          obtain ⟨r, h2, h3⟩ := ih (i + 1) (n + 1 + x.f1.f0.size + x.f1.f1.size) k (by omega) (by omega) (by omega) (by omega)
          refine ⟨r, by rw [← h2]; rfl, fun h => ?_⟩
          obtain ⟨h4, h5, h6⟩ := h3 h
          refine ⟨fun y hy => ?_, h5, by omega⟩
          rcases List.mem_cons.1 hy with rfl | hy
          · exact ⟨by omega, by omega⟩
          · exact h4 y hy
    · rw [if_neg (by rw [decide_eq_false hn]; simp)]
      obtain ⟨r, h2, h3⟩ := long_l1 who hw who.length 0 n k (by omega) (by omega) h0 h1
      refine ⟨r, h2, fun h => ?_⟩
      have := (h3 h).2
      omega
theorem long_f (l : List S41) (who : List S39) (hl : l.length ≤ 9223372036854775807) (hw : who.length ≤ 9223372036854775807) :
    ∃ k r, lagoonlaw06_long.f k l who = some r ∧ (r = false → (∀ x ∈ l, smE x) ∧ (∀ x ∈ who, smI x) ∧ l.length + who.length ≤ 1073741823) := by
  obtain ⟨r, h1, h2⟩ := long_l0 l who hl hw l.length 0 0 _ (by omega) (Nat.le_refl _) (by omega) (by omega)
  exact ⟨_, r, h1, fun h => by have := h2 h; exact ⟨this.1, this.2.1, by omega⟩⟩
theorem long_calls (A0 A1 : Option Addr) (c0 c1 : Nat) (l : List S41) (who : List S39) (hl : l.length ≤ 9223372036854775807) (hw : who.length ≤ 9223372036854775807) :
    ∃ r, (r = false → (∀ x ∈ l, smE x) ∧ (∀ x ∈ who, smI x) ∧ l.length + who.length ≤ 1073741823) ∧
      ∀ w, Kd.C k41 w A0 l.length l → l.length ≤ c0 → Kd.C k39 w A1 who.length who → who.length ≤ c1 → Calls Tryz.prog 6 #[.slice A0 l.length c0, .slice A1 who.length c1] w fun e w' => e = .returned (.bool r) ∧ Below w.heap.size w w' := by
  obtain ⟨k, r, h1, h2⟩ := long_f l who hl hw
  exact ⟨r, h2, fun w a b c d => (Pr.lagoonlaw06_long.calls k A0 c0 l A1 c1 who r w a b c d h1).mono fun e w' h => ⟨h.1, h.2.below⟩⟩
theorem nilC_E (w : World) : Kd.C k41 w none 0 [] := (Kd.R_reads' (Kd.R_nil k41 0 w 0 (fun _ => True))).2.2
theorem nilC_I (w : World) : Kd.C k39 w none 0 [] := (Kd.R_reads' (Kd.R_nil k39 0 w 0 (fun _ => True))).2.2
end Go.Proofs.YtgjgafibipepeaaGreatDoor.Q
