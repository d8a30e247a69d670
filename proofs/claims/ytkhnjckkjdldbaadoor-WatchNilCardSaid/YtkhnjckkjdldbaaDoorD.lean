import Derived.Test.YtkhnjckkjdldbaaDoorC
namespace Go.Proofs.YtkhnjckkjdldbaaDoor.Q
open Go.RowKit Go.Proofs.YtkhnjckkjdldbaaDoorW.PrintWords Go.Proofs.YtkhnjckkjdldbaaDoor.Pr
set_option linter.unusedVariables false
set_option linter.unusedSimpArgs false

/-! NAMES -/
def endAt (p : ByteArray) (i : Nat) : Nat := if h : i < p.size then (if (p.get! i).toNat = 47 then i else endAt p (i + 1)) else p.size
termination_by p.size - i
theorem endAt_out {p : ByteArray} {i : Nat} (h : ¬ i < p.size) : endAt p i = p.size := by rw [endAt, dif_neg h]
theorem endAt_yes {p : ByteArray} {i : Nat} (h : i < p.size) (k : (p.get! i).toNat = 47) : endAt p i = i := by rw [endAt, dif_pos h, if_pos k]
theorem endAt_no {p : ByteArray} {i : Nat} (h : i < p.size) (k : ¬ (p.get! i).toNat = 47) : endAt p i = endAt p (i + 1) := by rw [endAt, dif_pos h, if_neg k]
/-- what endAt is -/
theorem endAt_spec (p : ByteArray) : ∀ i, i ≤ p.size → i ≤ endAt p i ∧ endAt p i ≤ p.size ∧ (∀ j, i ≤ j → j < endAt p i → (p.get! j).toNat ≠ 47) ∧ (endAt p i < p.size → (p.get! (endAt p i)).toNat = 47) := by
  suffices ∀ n i, p.size - i ≤ n → i ≤ p.size → i ≤ endAt p i ∧ endAt p i ≤ p.size ∧ (∀ j, i ≤ j → j < endAt p i → (p.get! j).toNat ≠ 47) ∧ (endAt p i < p.size → (p.get! (endAt p i)).toNat = 47) from fun i hi => this _ i (Nat.le_refl _) hi
  intro n
  induction n with
  | zero =>
    intro i hi h
    rw [endAt_out (by omega)]
    exact ⟨h, Nat.le_refl _, fun j h1 h2 => by omega, fun h => by omega⟩
  | succ n ih =>
    intro i hi h
    by_cases h1 : i < p.size
    · by_cases h2 : (p.get! i).toNat = 47
      · rw [endAt_yes h1 h2]
        exact ⟨Nat.le_refl _, h, fun j h3 h4 => by omega, fun _ => h2⟩
      · rw [endAt_no h1 h2]
        obtain ⟨a, b, c, d⟩ := ih (i + 1) (by omega) (by omega)
        refine ⟨by omega, b, fun j h3 h4 => ?_, d⟩
        by_cases e : j = i
        · subst e; exact h2
        · exact c j (by omega) h4
    · rw [endAt_out h1]
      exact ⟨h, Nat.le_refl _, fun j h1 h2 => by omega, fun h => by omega⟩
theorem endAt_is {p : ByteArray} {i e : Nat} (h : i ≤ e) (he : e ≤ p.size) (h1 : ∀ j, i ≤ j → j < e → (p.get! j).toNat ≠ 47) (h2 : e < p.size → (p.get! e).toNat = 47) : endAt p i = e := by
  obtain ⟨a, b, c, d⟩ := endAt_spec p i (by omega)
  by_cases h3 : endAt p i < e
  · exact absurd (d (by omega)) (h1 _ a h3)
  · by_cases h4 : e < endAt p i
    · exact absurd (h2 (by omega)) (c e h h4)
    · omega
def segs (p : ByteArray) (i : Nat) : List ByteArray := if h : i ≤ p.size then p.extract i (endAt p i) :: segs p (endAt p i + 1) else []
termination_by p.size + 1 - i
decreasing_by have := (endAt_spec p i h).1; omega
theorem segs_in {p : ByteArray} {i : Nat} (h : i ≤ p.size) : segs p i = p.extract i (endAt p i) :: segs p (endAt p i + 1) := by rw [segs, dif_pos h]
theorem segs_out {p : ByteArray} {i : Nat} (h : ¬ i ≤ p.size) : segs p i = [] := by rw [segs, dif_neg h]
def names (p : ByteArray) : List ByteArray := if p.toList = [47] then [] else segs p 1
theorem end_f (p : ByteArray) (hs : p.size ≤ 4294967296) : ∀ n i k, p.size - i ≤ n → 1 + n ≤ k → lagoonref05_end.f k p (i : Nat) = some ((endAt p i : Nat) : Int) := by
  unfold lagoonref05_end.f
  intro n
  induction n with
  | zero =>
    intro i k hi hk
    obtain ⟨k, rfl⟩ : ∃ j, k = j + 1 := ⟨k - 1, by omega⟩
    rw [lagoonref05_end.l0, if_neg (by omega), endAt_out (by omega)]
  | succ n ih =>
    intro i k hi hk
    obtain ⟨k, rfl⟩ : ∃ j, k = j + 1 := ⟨k - 1, by omega⟩
    by_cases h : i < p.size
    · rw [lagoonref05_end.l0, if_pos (by omega), if_pos (by omega), bt_get p i h]
      by_cases h2 : (p.get! i).toNat = 47
      · rw [if_pos (by omega), endAt_yes h h2]
      · rw [if_neg (by omega), endAt_no h h2, w64 (by omega) (by omega)]
        exact ih (i + 1) k (by omega) (by omega)
    · rw [lagoonref05_end.l0, if_neg (by omega), endAt_out h]
theorem segs_len (p : ByteArray) : ∀ n i, p.size + 1 - i ≤ n → (segs p i).length ≤ n := by
  intro n
  induction n with
  | zero => intro i hi; rw [segs_out (by omega)]; simp
  | succ n ih =>
    intro i hi
    by_cases h : i ≤ p.size
    · rw [segs_in h]
      have := (endAt_spec p i h).1
      have := ih (endAt p i + 1) (by omega)
      simp; omega
    · rw [segs_out h]; simp
theorem names_l0 (p : ByteArray) (hs : p.size ≤ 4294967296) : ∀ n i k acc, p.size + 1 - i ≤ n → 2 + p.size + n ≤ k → acc.length ≤ i → lagoonref05_Names.l0 k p acc (i : Nat) = some (acc ++ segs p i) := by
  intro n
  induction n with
  | zero =>
    intro i k acc hi hk ha
    obtain ⟨k, rfl⟩ : ∃ j, k = j + 1 := ⟨k - 1, by omega⟩
    rw [lagoonref05_Names.l0, if_neg (by omega), segs_out (by omega)]; simp
  | succ n ih =>
    intro i k acc hi hk ha
    obtain ⟨k, rfl⟩ : ∃ j, k = j + 1 := ⟨k - 1, by omega⟩
    by_cases h : i ≤ p.size
    · obtain ⟨a, b, c, d⟩ := endAt_spec p i h
      rw [lagoonref05_Names.l0, if_pos (by omega), end_f p hs (p.size - i) i k (by omega) (by omega), Option.bind_some, if_pos (by omega), if_pos (by omega), if_pos (by omega), if_pos (by omega), w64 (by omega) (by omega), segs_in h]
      have := ih (endAt p i + 1) k (acc ++ [p.extract i (endAt p i)]) (by omega) (by omega) (by simp; omega)
      rw [List.append_assoc] at this
      exact this
    · rw [lagoonref05_Names.l0, if_neg (by omega), segs_out h]; simp
theorem names_f (p : ByteArray) (hs : p.size ≤ 4294967296) (k : Nat) (hk : 2 * p.size + 10 ≤ k) : lagoonref05_Names.f k p = some (names p) := by
  unfold lagoonref05_Names.f names
  by_cases h : p.toList = [47]
  · rw [if_pos h, if_pos h]
  · rw [if_neg h, if_neg h]
    exact names_l0 p hs p.size 1 k [] (by omega) (by omega) (by simp)
theorem segs_size (p : ByteArray) : ∀ n i, p.size + 1 - i ≤ n → ∀ x ∈ segs p i, x.size ≤ p.size := by
  intro n
  induction n with
  | zero => intro i hi x hx; rw [segs_out (by omega)] at hx; simp at hx
  | succ n ih =>
    intro i hi x hx
    by_cases h : i ≤ p.size
    · rw [segs_in h] at hx
      have := endAt_spec p i h
      rcases List.mem_cons.1 hx with rfl | hx
      · rw [ByteArray.size_extract]; omega
      · exact ih (endAt p i + 1) (by omega) x hx
    · rw [segs_out h] at hx; simp at hx
theorem names_size (p : ByteArray) : ∀ x ∈ names p, x.size ≤ p.size := by
  intro x hx
  unfold names at hx
  split at hx
  · simp at hx
  · exact segs_size p _ 1 (Nat.le_refl _) x hx
theorem names_len (p : ByteArray) : (names p).length ≤ p.size := by
  unfold names
  split
  · simp
  · exact segs_len p _ 1 (by omega)

/-! IS -/
/-- does it begin with a slash? -/
def slash (p : ByteArray) : Prop := 0 < p.size ∧ (p.get! 0).toNat = 47
instance (p : ByteArray) : Decidable (slash p) := by unfold slash; infer_instance
def isP (p : ByteArray) : Bool := decide (p.size ≤ 64) && decide (slash p) && (names p).all nameOk
theorem rdOf_nat {α : Type} (d : α) (l : List α) (i : Nat) : rdOf d l (i : Int) = l.getD i d := by simp [rdOf]
theorem is_l0 (l : List ByteArray) (B : Nat) (hB : B ≤ 4294967296) (hl : ∀ x ∈ l, x.size ≤ B) (hlen : l.length ≤ B) : ∀ n i k, l.length - i ≤ n → i ≤ l.length → 25 + B + n ≤ k → lagoonref05_Is.l0 k l (i : Nat) = some ((l.drop i).all nameOk) := by
  intro n
  induction n with
  | zero =>
    intro i k hi h1 hk
    obtain ⟨k, rfl⟩ : ∃ j, k = j + 1 := ⟨k - 1, by omega⟩
    rw [lagoonref05_Is.l0, if_neg (by omega), List.drop_of_length_le (by omega)]; rfl
  | succ n ih =>
    intro i k hi h1 hk
    obtain ⟨k, rfl⟩ : ∃ j, k = j + 1 := ⟨k - 1, by omega⟩
    by_cases h : i < l.length
    · have hx : l.getD i ByteArray.empty = l[i] := by simp [List.getD_eq_getElem?_getD, h]
      have hsz := hl l[i] (List.getElem_mem h)
      rw [lagoonref05_Is.l0, if_pos (by omega), if_pos (by omega), rdOf_nat, hx, name_f _ (by omega) k (by omega), Option.bind_some, List.drop_eq_getElem_cons h, List.all_cons]
      cases hn : nameOk l[i] with
      | true =>
        rw [if_pos rfl, w64 (by omega) (by omega), Bool.true_and]
        exact ih (i + 1) k (by omega) (by omega) (by omega)
      | false => rfl
    · rw [lagoonref05_Is.l0, if_neg (by omega), List.drop_of_length_le (by omega)]; rfl
theorem is_f (p : ByteArray) (hs : p.size ≤ 4294967296) (k : Nat) (hk : 3 * p.size + 40 ≤ k) : lagoonref05_Is.f k p = some (isP p) := by
  obtain ⟨k, rfl⟩ : ∃ j, k = j + 1 := ⟨k - 1, by omega⟩
  have hT : lagoonref05_Is.j0 (k + 1) p true = some false := by rw [lagoonref05_Is.j0, if_pos rfl]
  have hF : lagoonref05_Is.j0 (k + 1) p false = some ((names p).all nameOk) := by
    rw [lagoonref05_Is.j0, if_neg (by simp), names_f p hs k (by omega), Option.bind_some]
    exact is_l0 (names p) p.size hs (names_size p) (names_len p) p.size 0 k (by have := names_len p; omega) (by omega) (by omega)
  unfold lagoonref05_Is.f isP slash
  by_cases c1 : (p.size : Int) < 1
  · rw [if_pos c1, hT]
    have : ¬ 0 < p.size := by omega
    simp [this]
  rw [if_neg c1]
  by_cases c2 : (p.size : Int) > 64
  · rw [if_pos c2, hT]
    have : ¬ p.size ≤ 64 := by omega
    simp [this]
  rw [if_neg c2, if_pos (by omega)]
  have hb : bt p 0 = ((p.get! 0).toNat : Int) := bt_get p 0 (by omega)
  rw [hb]
  by_cases c3 : (p.get! 0).toNat = 47
  · have : (((p.get! 0).toNat : Int) != 47) = false := by rw [c3]; rfl
    rw [this, hF]
    have h1 : p.size ≤ 64 := by omega
    have h2 : 0 < p.size := by omega
    simp [c3, h1, h2]
  · have : (((p.get! 0).toNat : Int) != 47) = true := by rw [bne_iff_ne]; omega
    rw [this, hT]
    simp [c3]

/-! CHECK -/
/-- the place of the first fault among names that begin at a place -/
def ff : Nat → List ByteArray → Option Nat
  | _, [] => none
  | a, x :: l => match nameFault x with
    | some j => some (a + j)
    | none => ff (a + x.size + 1) l
/-- all names' faults against a least -/
def fold : Int → Int → List ByteArray → Int
  | _, least, [] => least
  | a, least, x :: l => fold (a + x.size + 1) (minFault x a least) l
theorem fold_big (l : List ByteArray) : ∀ (a least : Int), least ≤ a → fold a least l = least := by
  induction l with
  | nil => intro a least _; rfl
  | cons x l ih =>
    intro a least h
    have : minFault x a least = least := by
      unfold minFault
      split
      · rfl
      · rw [Int.min_eq_left (by omega)]
    rw [fold, this]
    exact ih _ _ (by omega)
theorem fold_ff (l : List ByteArray) : ∀ (a : Nat) (least : Int), fold a least l = match ff a l with | none => least | some j => min least (j : Int) := by
  induction l with
  | nil => intro a least; rfl
  | cons x l ih =>
    intro a least
    rw [fold, ff]
    cases h : nameFault x with
    | none =>
      have e : minFault x a least = least := by unfold minFault; rw [h]
      rw [e]
      exact ih (a + x.size + 1) least
    | some j =>
      have e : minFault x a least = min least ((a + j : Nat) : Int) := by unfold minFault; rw [h]; simp
      rw [e]
      exact fold_big l _ _ (by have := (nameFault_le h).1; omega)
theorem ff_none (l : List ByteArray) : ∀ a, ff a l = none ↔ l.all nameOk = true := by
  induction l with
  | nil => intro a; simp [ff]
  | cons x l ih =>
    intro a
    rw [ff, List.all_cons, Bool.and_eq_true]
    unfold nameOk at ih ⊢
    cases h : nameFault x with
    | none => simp only [Option.isNone_none, true_and]; exact ih _
    | some j => simp
theorem ff_le (p : ByteArray) : ∀ n i, p.size + 1 - i ≤ n → ∀ j, ff i (segs p i) = some j → j ≤ p.size := by
  intro n
  induction n with
  | zero => intro i hi j hj; rw [segs_out (by omega)] at hj; simp [ff] at hj
  | succ n ih =>
    intro i hi j hj
    by_cases h : i ≤ p.size
    · obtain ⟨a, b, c, d⟩ := endAt_spec p i h
      have hz : (p.extract i (endAt p i)).size = endAt p i - i := by rw [ByteArray.size_extract]; omega
      rw [segs_in h, ff] at hj
      cases h1 : nameFault (p.extract i (endAt p i)) with
      | none =>
        rw [h1] at hj
        simp only at hj
        rw [hz, show i + (endAt p i - i) + 1 = endAt p i + 1 by omega] at hj
        exact ih _ (by omega) j hj
      | some m =>
        rw [h1] at hj
        have := nameFault_le h1
        simp only [Option.some.injEq] at hj
        omega
    · rw [segs_out h] at hj; simp [ff] at hj
/-- what Check says -/
def checkP (p : ByteArray) : Nat × Nat :=
  if ¬ slash p then (0, 50) else if p.toList = [47] then (0, 0) else
  match ff 1 (segs p 1) with
  | some j => (min j 64, 50)
  | none => if 64 < p.size then (64, 50) else (0, 0)
theorem checkP_is (p : ByteArray) : isP p = true ↔ (checkP p).2 = 0 := by
  unfold isP checkP
  by_cases h : slash p
  · rw [if_neg (fun x => x h)]
    unfold names
    by_cases h1 : p.toList = [47]
    · rw [if_pos h1, if_pos h1]
      have : p.size = 1 := by
        rw [Lib.toList_data] at h1
        rw [Lib.size_eq, h1]; rfl
      simp [h, this]
    · rw [if_neg h1, if_neg h1]
      have hf := ff_none (segs p 1) 1
      cases h2 : ff 1 (segs p 1) with
      | some j =>
        have : ¬ (segs p 1).all nameOk = true := fun x => by have := hf.2 x; rw [h2] at this; cases this
        have : (segs p 1).all nameOk = false := by simpa using this
        simp only [this, Bool.and_false]; simp
      | none =>
        have := hf.1 h2
        by_cases h3 : 64 < p.size
        · simp [h3, this, h]
        · simp [h3, this, h]
          try omega
  · rw [if_pos h]; simp [h]
theorem checkP_ok (p : ByteArray) (h : isP p = true) : checkP p = (0, 0) := by
  have := (checkP_is p).1 h
  unfold checkP at this ⊢
  by_cases h1 : slash p
  · rw [if_neg (fun x => x h1)] at this ⊢
    by_cases h2 : p.toList = [47]
    · rw [if_pos h2]
    · rw [if_neg h2] at this ⊢
      cases h3 : ff 1 (segs p 1) with
      | some j => rw [h3] at this; simp at this
      | none =>
        rw [h3] at this
        by_cases h4 : 64 < p.size
        · simp [h4] at this
        · simp [h4]
  · rw [if_pos h1] at this; simp at this
theorem checkP_no (p : ByteArray) (h : isP p = false) : (checkP p).2 = 50 := by
  have h1 : ¬ (checkP p).2 = 0 := fun x => by have := (checkP_is p).2 x; rw [h] at this; cases this
  unfold checkP at h1 ⊢
  split
  · rfl
  · rename_i h2; rw [if_neg h2] at h1
    split
    · rename_i h3; rw [if_pos h3] at h1; simp at h1
    · rename_i h3; rw [if_neg h3] at h1
      split
      · rfl
      · rename_i h4
        rw [h4] at h1
        by_cases h5 : 64 < p.size
        · simp [h5]
        · simp [h5] at h1
def sums (l : List ByteArray) : Nat := (l.map (fun x => x.size + 1)).sum
theorem sums_cons (x : ByteArray) (l : List ByteArray) : sums (x :: l) = x.size + 1 + sums l := by simp [sums]
theorem check_l0 (l : List ByteArray) (B : Nat) (hB : B ≤ 2147483648) (hl : ∀ x ∈ l, x.size ≤ B) (hlen : l.length ≤ B) : ∀ n i k (a least : Int), l.length - i ≤ n → i ≤ l.length → 40 + 2 * B + n ≤ k → 0 ≤ a → a + (sums (l.drop i) : Nat) ≤ 4294967296 →
    lagoonref05_Check.l0 k least l a (i : Nat) = some (fold a least (l.drop i), 50) := by
  intro n
  induction n with
  | zero =>
    intro i k a least hi h1 hk _ _
    obtain ⟨k, rfl⟩ : ∃ j, k = j + 1 := ⟨k - 1, by omega⟩
    rw [lagoonref05_Check.l0, if_neg (by omega), List.drop_of_length_le (by omega)]; rfl
  | succ n ih =>
    intro i k a least hi h1 hk ha hsum
    obtain ⟨k, rfl⟩ : ∃ j, k = j + 1 := ⟨k - 1, by omega⟩
    by_cases h : i < l.length
    · have hx : l.getD i ByteArray.empty = l[i] := by simp [List.getD_eq_getElem?_getD, h]
      have hsz := hl l[i] (List.getElem_mem h)
      rw [List.drop_eq_getElem_cons h, sums_cons] at hsum
      rw [lagoonref05_Check.l0, if_pos (by omega), if_pos (by omega), rdOf_nat, hx, fault_f _ (by omega) a least ha (by omega) k (by omega), Option.bind_some, List.drop_eq_getElem_cons h, fold]
      rw [w64 (x := a + _) (by omega) (by omega), w64 (x := a + _ + 1) (by omega) (by omega), w64 (by omega) (by omega)]
      exact ih (i + 1) k (a + l[i].size + 1) _ (by omega) (by omega) (by omega) (by omega) (by omega)
    · rw [lagoonref05_Check.l0, if_neg (by omega), List.drop_of_length_le (by omega)]; rfl
theorem segs_sum (p : ByteArray) : ∀ n i, p.size + 1 - i ≤ n → sums (segs p i) ≤ p.size + 1 - i := by
  intro n
  induction n with
  | zero => intro i hi; rw [segs_out (by omega)]; simp [sums]
  | succ n ih =>
    intro i hi
    by_cases h : i ≤ p.size
    · obtain ⟨a, b, c, d⟩ := endAt_spec p i h
      have hz : (p.extract i (endAt p i)).size = endAt p i - i := by rw [ByteArray.size_extract]; omega
      rw [segs_in h, sums_cons, hz]
      have := ih (endAt p i + 1) (by omega)
      omega
    · rw [segs_out h]; simp [sums]
theorem refCheck_f (p : ByteArray) (hs : p.size ≤ 2147483648) (k : Nat) (hk : 4 * p.size + 60 ≤ k) : lagoonref05_Check.f k p = some (((checkP p).1 : Int), ((checkP p).2 : Int)) := by
  obtain ⟨k, rfl⟩ : ∃ j, k = j + 2 := ⟨k - 2, by omega⟩
  unfold lagoonref05_Check.f
  rw [is_f p (by omega) _ (by omega), Option.bind_some]
  cases hi : isP p with
  | true => rw [if_pos rfl, checkP_ok p hi]; rfl
  | false =>
    rw [if_neg (by simp)]
    have hT : lagoonref05_Check.j0 (k + 2) p true = some (0, 50) := by rw [lagoonref05_Check.j0, if_pos rfl]
    by_cases c1 : p.toList = []
    · rw [if_pos c1, hT]
      have : ¬ slash p := fun h => by have := (toList_nil_iff p).1 c1; have := h.1; omega
      unfold checkP; rw [if_pos this]; rfl
    rw [if_neg c1]
    have hp : 0 < p.size := by
      rcases Nat.eq_zero_or_pos p.size with h | h
      · exact absurd ((toList_nil_iff p).2 h) c1
      · exact h
    rw [if_pos (by omega)]
    have hb : bt p 0 = ((p.get! 0).toNat : Int) := bt_get p 0 (by omega)
    rw [hb]
    by_cases c3 : (p.get! 0).toNat = 47
    · have e : (((p.get! 0).toNat : Int) != 47) = false := by rw [c3]; rfl
      rw [e]
      have hsl : slash p := ⟨hp, c3⟩
      have hn : ¬ p.toList = [47] := fun h => by
        have : checkP p = (0, 0) := by unfold checkP; rw [if_neg (fun x => x hsl), if_pos h]
        have := (checkP_is p).2 (by rw [this])
        rw [hi] at this; cases this
      have hj : ∀ x : Int, lagoonref05_Check.j1 (k + 1) p x = some (fold 1 x (segs p 1), 50) := fun x => by
        rw [lagoonref05_Check.j1, names_f p (by omega) k (by omega), Option.bind_some]
        have hnm : names p = segs p 1 := by unfold names; rw [if_neg hn]
        have h9 := check_l0 (names p) p.size hs (names_size p) (names_len p) p.size 0 k 1 x (by have := names_len p; omega) (by omega) (by omega) (by omega) (by
          rw [List.drop_zero, hnm]
          have := segs_sum p _ 1 (Nat.le_refl _)
          omega)
        rw [List.drop_zero, hnm] at h9
        rw [hnm]; exact h9
      rw [lagoonref05_Check.j0, if_neg (by simp), w64 (by omega) (by omega)]
      have hfold : ∀ x : Int, fold 1 x (segs p 1) = match ff 1 (segs p 1) with | none => x | some j => min x (j : Int) := fun x => fold_ff (segs p 1) 1 x
      have hle := ff_le p _ 1 (Nat.le_refl _)
      have hck : checkP p = match ff 1 (segs p 1) with | some j => (min j 64, 50) | none => if 64 < p.size then (64, 50) else (0, 0) := by
        unfold checkP; rw [if_neg (fun x : ¬ slash p => x hsl), if_neg hn]
      rw [hck]
      have hff := ff_none (segs p 1) 1
      by_cases c4 : (p.size : Int) > 64
      · rw [if_pos c4, hj, hfold]
        cases h5 : ff 1 (segs p 1) with
        | none => simp only; rw [if_pos (by omega)]; rfl
        | some j =>
          simp only
          congr 2
          omega
      · rw [if_neg c4, hj, hfold]
        cases h5 : ff 1 (segs p 1) with
        | none =>
          exfalso
          have : checkP p = (0, 0) := by
            unfold checkP
            rw [if_neg (fun x => x hsl), if_neg hn, h5]
            simp only
            rw [if_neg (by omega)]
          have := (checkP_is p).2 (by rw [this])
          rw [hi] at this; cases this
        | some j =>
          have := hle j h5
          simp only
          congr 2
          omega
    · have e : (((p.get! 0).toNat : Int) != 47) = true := by rw [bne_iff_ne]; omega
      rw [e, hT]
      unfold checkP
      rw [if_pos (fun h : slash p => c3 h.2)]; rfl
end Go.Proofs.YtkhnjckkjdldbaaDoor.Q
