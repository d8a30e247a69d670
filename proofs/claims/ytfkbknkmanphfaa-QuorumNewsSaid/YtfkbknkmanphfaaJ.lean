import Derived.Test.YtfkbknkmanphfaaH
import Derived.Test.YtfkbknkmanphfaaE
namespace Go.Proofs.Ytfkbknkmanphfaa.Q
open Go.RowKit
set_option linter.unusedVariables false
set_option linter.unusedSimpArgs false

/-! PLAIN LAWS ON WHAT IS COMMITTED: no program in sight. -/
theorem cmp_lt (a b c d : Int) : cmpZ a b c d < 0 ↔ a < c ∨ (a = c ∧ b < d) := by
  unfold cmpZ
  by_cases h1 : a < c
  · simp [h1]
  · by_cases h2 : c < a
    · simp [h1, h2]; omega
    · by_cases h3 : b < d
      · simp [h1, h2, h3]; omega
      · by_cases h4 : d < b
        · simp [h1, h2, h3, h4]; try omega
        · simp [h1, h2, h3, h4]; try omega
theorem cmp_ge (a b c d : Int) : 0 ≤ cmpZ a b c d ↔ c < a ∨ (a = c ∧ d ≤ b) := by
  have := cmp_lt a b c d
  omega
theorem cmp_gt (a b c d : Int) : 0 < cmpZ a b c d ↔ c < a ∨ (a = c ∧ d < b) := by
  unfold cmpZ
  by_cases h1 : a < c
  · simp [h1]; omega
  · by_cases h2 : c < a
    · simp [h1, h2]
    · by_cases h3 : b < d
      · simp [h1, h2, h3]; omega
      · by_cases h4 : d < b
        · simp [h1, h2, h3, h4]; try omega
        · simp [h1, h2, h3, h4]; try omega
def leA (x y : Ak) : Prop := 0 ≤ cmpZ y.e y.n x.e x.n
theorem leA_refl (x : Ak) : leA x x := by unfold leA; rw [cmp_ge]; omega
theorem leA_trans {x y z : Ak} (h : leA x y) (k : leA y z) : leA x z := by unfold leA at *; rw [cmp_ge] at *; omega
theorem leA_total (x y : Ak) : leA x y ∨ leA y x := by unfold leA; rw [cmp_ge, cmp_ge]; omega
theorem not_leA {x y : Ak} : ¬ leA x y ↔ cmpZ y.e y.n x.e x.n < 0 := by unfold leA; omega

/-- a candidate: a server's, up to which a quorum has -/
def Cand (ws gs : List Int) (f : Nat → Ak) (x : Ak) : Prop := x.s = true ∧ hasB ws gs (inS (setTo f x.e x.n 7)) = true
theorem best_spec (ws gs : List Int) (f : Nat → Ak) (n : Nat) :
    ((bestTo ws gs f n).s = true → ∃ k, k < n ∧ f k = bestTo ws gs f n ∧ Cand ws gs f (f k)) ∧ (∀ k, k < n → Cand ws gs f (f k) → (bestTo ws gs f n).s = true ∧ leA (f k) (bestTo ws gs f n)) := by
  induction n with
  | zero => exact ⟨fun h => by simp [bestTo] at h, fun k hk => by omega⟩
  | succ n ih =>
    obtain ⟨i1, i2⟩ := ih
    simp only [bestTo]
    generalize bestTo ws gs f n = b at *
    unfold bestStep
    by_cases c : (f n).s = true ∧ (b.s = false ∨ cmpZ b.e b.n (f n).e (f n).n < 0) ∧ hasB ws gs (inS (setTo f (f n).e (f n).n 7)) = true
    · rw [if_pos c]
      refine ⟨fun _ => ⟨n, by omega, rfl, c.1, c.2.2⟩, fun k hk hc => ⟨c.1, ?_⟩⟩
      by_cases e : k = n
      · subst e; exact leA_refl _
      · obtain ⟨j1, j2⟩ := i2 k (by omega) hc
        rcases c.2.1 with h | h
        · rw [j1] at h; simp at h
        · exact leA_trans j2 (by unfold leA; rw [cmp_ge]; rw [cmp_lt] at h; omega)
    · rw [if_neg c]
      refine ⟨fun h => by obtain ⟨k, hk, r⟩ := i1 h; exact ⟨k, by omega, r⟩, fun k hk hc => ?_⟩
      by_cases e : k = n
      · subst e
        cases hb : b.s with
        | false => exact absurd ⟨hc.1, .inl hb, hc.2⟩ c
        | true =>
          refine ⟨rfl, ?_⟩
          by_cases hl : leA (f k) b
          · exact hl
          · exact absurd ⟨hc.1, .inr (not_leA.1 hl), hc.2⟩ c
      · exact i2 k (by omega) hc
theorem best_none (ws gs : List Int) (f : Nat → Ak) (n : Nat) (h : (bestTo ws gs f n).s = false) : bestTo ws gs f n = ⟨false, 0, 0⟩ := by
  induction n with
  | zero => rfl
  | succ n ih =>
    simp only [bestTo, bestStep] at *
    split at h
    · rename_i c; rw [c.1] at h; simp at h
    · rw [if_neg (by assumption)]; exact ih h

/-- of a set of servers that is not empty one has the least -/
theorem least_of (f : Nat → Ak) (S : Nat → Bool) (n : Nat) (h : ∃ i, i < n ∧ S i = true) : ∃ i, i < n ∧ S i = true ∧ ∀ j, j < n → S j = true → leA (f i) (f j) := by
  induction n with
  | zero => obtain ⟨i, hi, _⟩ := h; omega
  | succ n ih =>
    by_cases hs : ∃ i, i < n ∧ S i = true
    · obtain ⟨i, hi, si, hl⟩ := ih hs
      by_cases sn : S n = true
      · by_cases hc : leA (f i) (f n)
        · exact ⟨i, by omega, si, fun j hj sj => by
            by_cases e : j = n
            · subst e; exact hc
            · exact hl j (by omega) sj⟩
        · have hc2 : leA (f n) (f i) := (leA_total (f i) (f n)).resolve_left hc
          exact ⟨n, by omega, sn, fun j hj sj => by
            by_cases e : j = n
            · subst e; exact leA_refl _
            · exact leA_trans hc2 (hl j (by omega) sj)⟩
      · exact ⟨i, by omega, si, fun j hj sj => by
          by_cases e : j = n
          · subst e; exact absurd sj sn
          · exact hl j (by omega) sj⟩
    · obtain ⟨i, hi, si⟩ := h
      obtain rfl : i = n := by
        by_cases e : i = n
        · exact e
        · exact absurd ⟨i, by omega, si⟩ hs
      exact ⟨i, by omega, si, fun j hj sj => by
        by_cases e : j = i
        · subst e; exact leA_refl _
        · exact absurd ⟨j, by omega, sj⟩ hs⟩
theorem nonempty_of {ws gs : List Int} (h : Valid ws gs) (S : Nat → Bool) (hb : hasB ws gs S = true) : ∃ i, i < ws.length ∧ S i = true := by
  by_cases he : ∃ i, i < ws.length ∧ S i = true
  · exact he
  · rw [hasB_congr S (fun _ => false) (fun i hi => by
      cases hs : S i
      · rfl
      · exact absurd ⟨i, hi, hs⟩ he), hasB_none h] at hb
    simp at hb
/-- a quorum all of whose servers have acknowledged something: the least of it is a candidate -/
theorem cand_of {ws gs : List Int} (h : Valid ws gs) (f : Nat → Ak) (S : Nat → Bool) (hb : hasB ws gs S = true) (hs : ∀ i, i < ws.length → S i = true → (f i).s = true) :
    ∃ i, i < ws.length ∧ S i = true ∧ Cand ws gs f (f i) := by
  obtain ⟨i, hi, si, hl⟩ := least_of f S ws.length (nonempty_of h S hb)
  refine ⟨i, hi, si, hs i hi si, hasB_mono h S _ (fun j hj sj => ?_) hb⟩
  have h7 := h.le7
  rw [setTo_in f _ _ 7 (by omega) j (by omega)]
  have := hl j hj sj
  unfold leA at this
  rw [hs j hj sj]
  simp only [Bool.and_true, Bool.and_eq_true, decide_eq_true_eq]
  exact ⟨by omega, this⟩

def setP (P : Nat → Bool) : Nat → Int
  | 0 => 0
  | k + 1 => if P k = true then bits .or .u8 (setP P k) (2 ^ k % 256) else setP P k
theorem setP_bd (P : Nat → Bool) (k : Nat) (hk : k ≤ 7) : 0 ≤ setP P k ∧ setP P k ≤ 255 := by
  induction k with
  | zero => simp [setP]
  | succ k ih =>
    have ih := ih (by omega)
    simp only [setP]
    split
    · exact or_bd _ _ ih.1 ih.2 (by omega)
    · exact ih
theorem setP_in (P : Nat → Bool) (k : Nat) (hk : k ≤ 7) (j : Nat) (hj : j < 8) : inS (setP P k) j = (decide (j < k) && P j) := by
  induction k with
  | zero => simp [setP, inS]
  | succ k ih =>
    have ih := ih (by omega)
    have bd := setP_bd P k (by omega)
    simp only [setP]
    split
    · rename_i h
      rw [or_in _ _ _ bd.1 bd.2 (by omega) hj, ih]
      by_cases e : j = k
      · subst e; simp [h]
      · have : (j < k + 1) = (j < k) := by simp; omega
        simp [e, this]
    · rename_i h
      rw [ih]
      by_cases e : j = k
      · subst e
        simp [h]
      · have : (j < k + 1) = (j < k) := by simp; omega
        simp [this]

/-- what a system's Acks can be -/
def Fin (ws : List Int) (f : Nat → Ak) : Prop := ∀ k, ws.length ≤ k → f k = ⟨false, 0, 0⟩
structure Pt where
  s : Int
  e : Int
  n : Int
def putX (ws : List Int) (f : Nat → Ak) (p : Pt) : Nat → Ak := if validB ws p.s = true then putA f p.s.toNat p.e p.n else f
theorem Fin.put {ws : List Int} {f : Nat → Ak} (h : Fin ws f) (p : Pt) : Fin ws (putX ws f p) := by
  intro k hk
  unfold putX
  split
  · rename_i hv
    simp only [validB, Bool.and_eq_true, decide_eq_true_eq] at hv
    unfold putA
    rw [if_neg (by rintro ⟨e, _⟩; omega)]
    exact h k hk
  · exact h k hk
theorem putX_rises (ws : List Int) (f : Nat → Ak) (p : Pt) (i : Nat) (hs : (f i).s = true) : (putX ws f p i).s = true ∧ leA (f i) (putX ws f p i) := by
  unfold putX
  split
  · unfold putA
    split
    · rename_i h
      refine ⟨rfl, ?_⟩
      obtain ⟨rfl, h | h⟩ := h
      · rw [hs] at h; simp at h
      · unfold leA; rw [cmp_ge]; rw [cmp_lt] at h; dsimp only; omega
    · exact ⟨hs, leA_refl _⟩
  · exact ⟨hs, leA_refl _⟩

/-- Committed never falls -/
theorem never_falls {ws gs : List Int} (h : Valid ws gs) (f : Nat → Ak) (p : Pt) (hs : (bestTo ws gs f 7).s = true) :
    (bestTo ws gs (putX ws f p) 7).s = true ∧ ¬ cmpZ (bestTo ws gs (putX ws f p) 7).e (bestTo ws gs (putX ws f p) 7).n (bestTo ws gs f 7).e (bestTo ws gs f 7).n < 0 := by
  have h7 := h.le7
  obtain ⟨k, hk, e, c1, c2⟩ := (best_spec ws gs f 7).1 hs
  have key : ∀ i, i < ws.length → inS (setTo f (f k).e (f k).n 7) i = true → (f i).s = true ∧ leA (f k) (f i) := fun i hi hx => by
    rw [setTo_in f _ _ 7 (by omega) i (by omega)] at hx
    simp only [Bool.and_eq_true, decide_eq_true_eq] at hx
    exact ⟨hx.1.2, hx.2⟩
  obtain ⟨j, hj, sj, hc⟩ := cand_of h (putX ws f p) _ c2 (fun i hi hx => (putX_rises ws f p i (key i hi hx).1).1)
  obtain ⟨r1, r2⟩ := (best_spec ws gs (putX ws f p) 7).2 j (by omega) hc
  refine ⟨r1, ?_⟩
  rw [← e]
  have := leA_trans (leA_trans (key j hj sj).2 (putX_rises ws f p j (key j hj sj).1).2) r2
  unfold leA at this
  omega
/-- what is committed a quorum has acknowledged -/
theorem committed_has {ws gs : List Int} (h : Valid ws gs) (f : Nat → Ak) (hs : (bestTo ws gs f 7).s = true) (P : Nat → Bool)
    (hP : ∀ i, i < 7 → P i = ((f i).s && decide (0 ≤ cmpZ (f i).e (f i).n (bestTo ws gs f 7).e (bestTo ws gs f 7).n))) : hasB ws gs (inS (setP P 7)) = true := by
  have h7 := h.le7
  obtain ⟨k, hk, e, c1, c2⟩ := (best_spec ws gs f 7).1 hs
  rw [e] at c2
  rw [← c2]
  refine hasB_congr _ _ (fun i hi => ?_)
  rw [setP_in P 7 (by omega) i (by omega), setTo_in f _ _ 7 (by omega) i (by omega), hP i (by omega)]
  simp [Bool.and_assoc]
/-- .. and nothing above it -/
theorem above_none {ws gs : List Int} (h : Valid ws gs) (f : Nat → Ak) (P : Nat → Bool) (hP : ∀ i, i < 7 → P i = true → (f i).s = true ∧ ((bestTo ws gs f 7).s = true → 0 < cmpZ (f i).e (f i).n (bestTo ws gs f 7).e (bestTo ws gs f 7).n)) :
    hasB ws gs (inS (setP P 7)) = false := by
  have h7 := h.le7
  cases hb : hasB ws gs (inS (setP P 7)) with
  | false => rfl
  | true =>
    have key : ∀ i, i < ws.length → inS (setP P 7) i = true → P i = true := fun i hi hx => by
      rw [setP_in P 7 (by omega) i (by omega)] at hx
      simp only [Bool.and_eq_true] at hx
      exact hx.2
    obtain ⟨j, hj, sj, hc⟩ := cand_of h f _ hb (fun i hi hx => (hP i (by omega) (key i hi hx)).1)
    obtain ⟨r1, r2⟩ := (best_spec ws gs f 7).2 j (by omega) hc
    have := (hP j (by omega) (key j hj sj)).2 r1
    unfold leA at r2
    rw [cmp_ge] at r2
    rw [cmp_gt] at this
    omega
/-- two sets without a server in common are not both quorums -/
theorem not_both {ws gs : List Int} (h : Valid ws gs) (a : Int) (a0 : 0 ≤ a) (a1 : a ≤ 255) (ha : hasB ws gs (inS a) = true) : hasB ws gs (inS (bits .andNot .u8 127 a)) = false := by
  have h7 := h.le7
  cases hb : hasB ws gs (inS (bits .andNot .u8 127 a)) with
  | false => rfl
  | true =>
    obtain ⟨i, hi, r1, r2, _⟩ := quorums_meet h _ _ ha hb
    have : (inS a i && inS (bits .andNot .u8 127 a) i) = false := by
      obtain ⟨n, rfl⟩ := Int.eq_ofNat_of_zero_le a0
      have := bytes_all (fun n i => (inS (n : Int) i && inS (bits .andNot .u8 127 (n : Int)) i) == false) (by decide +kernel) n i (by omega) (by omega)
      exact beq_iff_eq.1 this
    rw [r1, r2] at this
    simp at this
end Go.Proofs.Ytfkbknkmanphfaa.Q
