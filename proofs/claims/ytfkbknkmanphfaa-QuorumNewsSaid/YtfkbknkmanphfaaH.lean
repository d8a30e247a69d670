import Derived.Test.YtfkbknkmanphfaaB
namespace Go.Proofs.Ytfkbknkmanphfaa.Q
open Go.RowKit
set_option linter.unusedVariables false
set_option linter.unusedSimpArgs false

/-! PLAIN LAWS ON QUORUMS: no program in sight. -/
theorem wsum_mono {ws gs : List Int} (h : Valid ws gs) (S S' : Nat → Bool) (hs : ∀ i, i < ws.length → S i = true → S' i = true) (g : Int) (k : Nat) (hk : k ≤ ws.length) : wsum ws gs S g k ≤ wsum ws gs S' g k := by
  induction k with
  | zero => simp [wsum]
  | succ k ih =>
    have i1 := ih (by omega)
    have i2 := (h.wr k (by omega)).1
    have i3 := hs k (by omega)
    simp only [wsum]
    by_cases c : gs.getD k 0 = g ∧ S k = true
    · rw [if_pos c, if_pos ⟨c.1, i3 c.2⟩]; omega
    · rw [if_neg c]; split <;> omega
theorem wsum_congr {ws gs : List Int} (S S' : Nat → Bool) (g : Int) (k : Nat) (hs : ∀ i, i < k → S i = S' i) : wsum ws gs S g k = wsum ws gs S' g k := by
  induction k with
  | zero => rfl
  | succ k ih => simp only [wsum]; rw [ih (fun i hi => hs i (by omega)), hs k (by omega)]
theorem heldTo_mono {ws gs : List Int} (h : Valid ws gs) (S S' : Nat → Bool) (hs : ∀ i, i < ws.length → S i = true → S' i = true) (n : Nat) : heldTo ws gs S n ≤ heldTo ws gs S' n := by
  induction n with
  | zero => simp [heldTo]
  | succ n ih =>
    have := wsum_mono h S S' hs n ws.length (Nat.le_refl _)
    simp only [heldTo]
    by_cases c : wsum ws gs (fun _ => true) n ws.length < 2 * wsum ws gs S n ws.length
    · rw [if_pos c, if_pos (by omega)]; omega
    · rw [if_neg c]; split <;> omega
theorem hasB_mono {ws gs : List Int} (h : Valid ws gs) (S S' : Nat → Bool) (hs : ∀ i, i < ws.length → S i = true → S' i = true) (hb : hasB ws gs S = true) : hasB ws gs S' = true := by
  have := heldTo_mono h S S' hs 7
  unfold hasB at *
  simp only [decide_eq_true_eq] at *
  omega
theorem hasB_congr {ws gs : List Int} (S S' : Nat → Bool) (hs : ∀ i, i < ws.length → S i = S' i) : hasB ws gs S = hasB ws gs S' := by
  have e : ∀ n, heldTo ws gs S n = heldTo ws gs S' n := by
    intro n
    induction n with
    | zero => rfl
    | succ n ih => simp only [heldTo]; rw [ih, wsum_congr S S' n ws.length hs]
  unfold hasB
  rw [e 7]

theorem held_both {ws gs : List Int} (h : Valid ws gs) (A B : Nat → Bool) (n : Nat) (hn : cntTo ws gs n < heldTo ws gs A n + heldTo ws gs B n) :
    ∃ g : Nat, g < n ∧ wsum ws gs (fun _ => true) g ws.length < 2 * wsum ws gs A g ws.length ∧ wsum ws gs (fun _ => true) g ws.length < 2 * wsum ws gs B g ws.length := by
  induction n with
  | zero => simp [cntTo, heldTo] at hn
  | succ n ih =>
    by_cases c : wsum ws gs (fun _ => true) n ws.length < 2 * wsum ws gs A n ws.length ∧ wsum ws gs (fun _ => true) n ws.length < 2 * wsum ws gs B n ws.length
    · exact ⟨n, by omega, c.1, c.2⟩
    · have a1 := wsum_mono h A (fun _ => true) (fun _ _ _ => rfl) n ws.length (Nat.le_refl _)
      have b1 := wsum_mono h B (fun _ => true) (fun _ _ _ => rfl) n ws.length (Nat.le_refl _)
      have a0 := (wsum_bd' h A n)
      have b0 := (wsum_bd' h B n)
      obtain ⟨g, hg, r⟩ := ih (by
        simp only [cntTo, heldTo] at hn
        by_cases ca : wsum ws gs (fun _ => true) n ws.length < 2 * wsum ws gs A n ws.length
        · rw [if_pos ca] at hn
          rw [if_neg (fun cb => c ⟨ca, cb⟩), if_pos (by omega)] at hn
          omega
        · rw [if_neg ca] at hn
          by_cases cb : wsum ws gs (fun _ => true) n ws.length < 2 * wsum ws gs B n ws.length
          · rw [if_pos cb, if_pos (by omega)] at hn; omega
          · rw [if_neg cb] at hn; split at hn <;> omega)
      exact ⟨g, by omega, r⟩
where wsum_bd' {ws gs : List Int} (h : Valid ws gs) (S : Nat → Bool) (n : Nat) : 0 ≤ wsum ws gs S n ws.length := by
        have := wsum_mono h (fun _ => false) S (fun _ _ h => by simp at h) n ws.length (Nat.le_refl _)
        have z : ∀ k, wsum ws gs (fun _ => false) n k = 0 := by
          intro k
          induction k with
          | zero => rfl
          | succ k ih => simp only [wsum, ih]; simp
        rw [z] at this
        exact this
theorem sum_both {ws gs : List Int} (A B : Nat → Bool) (g : Int) (k : Nat) (hw : ∀ i, i < k → 0 ≤ ws.getD i 0) (hno : ∀ i, i < k → ¬ (gs.getD i 0 = g ∧ A i = true ∧ B i = true ∧ 0 < ws.getD i 0)) : wsum ws gs A g k + wsum ws gs B g k ≤ wsum ws gs (fun _ => true) g k := by
  induction k with
  | zero => simp [wsum]
  | succ k ih =>
    have i1 := ih (fun i hi => hw i (by omega)) (fun i hi => hno i (by omega))
    have i2 := hw k (by omega)
    have i3 := hno k (by omega)
    simp only [wsum]
    by_cases cg : gs.getD k 0 = g
    · cases ha : A k <;> cases hb : B k <;> simp only [cg, ha, hb, and_true, if_true, Bool.false_eq_true, and_false, if_false]
      · omega
      · omega
      · omega
      · have : ¬ 0 < ws.getD k 0 := fun h => i3 ⟨cg, ha, hb, h⟩
        omega
    · simp only [cg, false_and, if_false]; omega
/-- THE THEOREM OF STAGE 20: two quorums have a server in common that counts -/
theorem quorums_meet {ws gs : List Int} (h : Valid ws gs) (A B : Nat → Bool) (ha : hasB ws gs A = true) (hb : hasB ws gs B = true) : ∃ i, i < ws.length ∧ A i = true ∧ B i = true ∧ 0 < ws.getD i 0 := by
  unfold hasB at ha hb
  simp only [decide_eq_true_eq] at ha hb
  obtain ⟨g, hg, c1, c2⟩ := held_both h A B 7 (by omega)
  by_cases hn : ∃ i, i < ws.length ∧ A i = true ∧ B i = true ∧ 0 < ws.getD i 0
  · exact hn
  · have := sum_both (ws := ws) (gs := gs) A B g ws.length (fun i hi => (h.wr i hi).1) (fun i hi hx => hn ⟨i, hi, hx.2.1, hx.2.2.1, hx.2.2.2⟩)
    omega
theorem held_all (ws gs : List Int) (n : Nat) : heldTo ws gs (fun _ => true) n = cntTo ws gs n := by
  induction n with
  | zero => rfl
  | succ n ih =>
    simp only [heldTo, cntTo, ih]
    congr 1
    by_cases c : 0 < wsum ws gs (fun _ => true) n ws.length
    · rw [if_pos c, if_pos (by omega)]
    · rw [if_neg c, if_neg (by omega)]
theorem hasB_all {ws gs : List Int} (h : Valid ws gs) : hasB ws gs (fun _ => true) = true := by
  have := h.some
  unfold hasB
  rw [held_all]
  simp only [decide_eq_true_eq]
  omega
theorem hasB_none {ws gs : List Int} (h : Valid ws gs) : hasB ws gs (fun _ => false) = false := by
  have z : ∀ (g : Int) k, wsum ws gs (fun _ => false) g k = 0 := by
    intro g k
    induction k with
    | zero => rfl
    | succ k ih => simp only [wsum, ih]; simp
  have e : ∀ n, heldTo ws gs (fun _ => false) n = 0 := by
    intro n
    induction n with
    | zero => rfl
    | succ n ih =>
      simp only [heldTo, ih, z]
      have := held_both.wsum_bd' h (fun _ => true) n
      rw [if_neg (by omega)]; rfl
  unfold hasB
  rw [e]
  have := h.some
  simp only [decide_eq_false_iff_not]
  omega

/-! bytes as sets -/
theorem inS_or (a b : Int) (a0 : 0 ≤ a) (a1 : a ≤ 255) (b0 : 0 ≤ b) (b1 : b ≤ 255) (i : Nat) : inS (bits .or .u8 a b) i = (inS a i || inS b i) := by
  rw [u8_or a b a0 (by omega) b0 (by omega)]
  unfold inS
  rw [Int.toNat_natCast, Nat.testBit_or]
theorem inS_127 (i : Nat) (hi : i < 7) : inS 127 i = true := by
  have : i = 0 ∨ i = 1 ∨ i = 2 ∨ i = 3 ∨ i = 4 ∨ i = 5 ∨ i = 6 := by omega
  rcases this with rfl | rfl | rfl | rfl | rfl | rfl | rfl <;> decide +kernel
theorem inS_0 (i : Nat) : inS 0 i = false := by unfold inS; simp
def partB (t a : Int) : Bool := bits .and .u8 t a == t
theorem partB_eq (t a : Nat) (ht : t < 256) (ha : a < 256) : partB (t : Int) (a : Int) = decide (t &&& a = t) := by
  unfold partB
  rw [u8_and_nat t a ht ha, Bool.eq_iff_iff]
  simp only [beq_iff_eq, decide_eq_true_eq]
  omega
theorem inS_nat (t i : Nat) : inS (t : Int) i = t.testBit i := by unfold inS; rw [Int.toNat_natCast]
/-- what a set has, as a number: its bits below seven -/
theorem part_bits (t a : Nat) : t &&& a = t ↔ ∀ i, t.testBit i = true → a.testBit i = true := by
  constructor
  · intro h i hi
    rw [← h, Nat.testBit_and] at hi
    simp only [Bool.and_eq_true] at hi
    exact hi.2
  · intro h
    apply Nat.eq_of_testBit_eq
    intro i
    rw [Nat.testBit_and]
    cases ht : t.testBit i
    · rfl
    · rw [h i ht]; rfl
def clrN (n i : Nat) : Nat := (clr n i).toNat
theorem clrN_lt (n i : Nat) (hn : n ≤ 255) (hi : i < 8) (hb : n.testBit i = true) : clrN n i < n := by
  have := bytes_all (fun n i => !(n.testBit i) || decide (clrN n i < n)) (by decide +kernel) n i hn hi
  simp only [hb, Bool.not_true, Bool.false_or, decide_eq_true_eq] at this
  exact this
theorem clrN_sub (n i : Nat) (hn : n ≤ 255) (hi : i < 8) : clrN n i &&& n = clrN n i := by
  have := bytes_all (fun n i => decide (clrN n i &&& n = clrN n i)) (by decide +kernel) n i hn hi
  simpa using this
/-- each quorum holds a least one -/
theorem least_exists {ws gs : List Int} (h : Valid ws gs) (a : Nat) (ha : a ≤ 255) (hq : hasB ws gs (inS a) = true) : ∃ t : Nat, t < 128 ∧ partB (t : Int) (a : Int) = true ∧ leastB ws gs (t : Int) = true := by
  have go : ∀ m t : Nat, t ≤ m → t < 128 → t &&& a = t → hasB ws gs (inS (t : Int)) = true → ∃ t : Nat, t < 128 ∧ partB (t : Int) (a : Int) = true ∧ leastB ws gs (t : Int) = true := by
    intro m
    induction m with
    | zero =>
      intro t ht _ _ hb
      obtain rfl : t = 0 := by omega
      have : hasB ws gs (inS ((0 : Nat) : Int)) = hasB ws gs (fun _ => false) := hasB_congr _ _ (fun i _ => inS_0 i)
      rw [this, hasB_none h] at hb
      simp at hb
    | succ m ih =>
      intro t ht h7 hs hb
      by_cases hl : leastTo ws gs (t : Int) ws.length = true
      · exact ⟨t, h7, by rw [partB_eq t a (by omega) (by omega)]; simpa using hs, by unfold leastB; rw [hb, hl]; rfl⟩
      · have : ∃ i, i < ws.length ∧ (inS (t : Int) i && hasB ws gs (inS (clr t i))) = true := by
          have key : ∀ n, leastTo ws gs (t : Int) n ≠ true → ∃ i, i < n ∧ (inS (t : Int) i && hasB ws gs (inS (clr t i))) = true := by
            intro n
            induction n with
            | zero => intro hx; exact absurd rfl hx
            | succ n ihn =>
              intro hx
              by_cases c : (inS (t : Int) n && hasB ws gs (inS (clr t n))) = true
              · exact ⟨n, by omega, c⟩
              · obtain ⟨i, hi, hc⟩ := ihn (by
                  intro hy
                  apply hx
                  simp only [leastTo, hy]
                  rw [Bool.not_eq_true] at c; rw [c]; rfl)
                exact ⟨i, by omega, hc⟩
          exact key _ hl
        obtain ⟨i, hi, hc⟩ := this
        simp only [Bool.and_eq_true] at hc
        have h7' := h.le7
        have hcl : (clr (t : Int) i) = ((clrN t i : Nat) : Int) := by
          unfold clrN
          have := (clr_bd (t : Int) i (by omega) (by omega) (by omega)).1
          omega
        have hlt := clrN_lt t i (by omega) (by omega) (by rw [← inS_nat]; exact hc.1)
        have hsub := clrN_sub t i (by omega) (by omega)
        refine ih (clrN t i) (by omega) (by omega) ?_ (by rw [← hcl]; exact hc.2)
        rw [part_bits] at hs hsub ⊢
        exact fun j hj => hs j (hsub j hj)
  refine go 127 (a &&& 127) ?_ ?_ ?_ ?_
  · exact Nat.and_le_right
  · exact Nat.lt_of_le_of_lt Nat.and_le_right (by omega)
  · rw [Nat.and_comm a 127, Nat.and_assoc, Nat.and_self]
  · rw [← hq]
    refine hasB_congr _ _ (fun i hi => ?_)
    have h7 := h.le7
    rw [inS_nat, inS_nat, Nat.testBit_and, ← inS_nat 127 i]
    have := inS_127 i (by omega)
    rw [show ((127 : Nat) : Int) = 127 from rfl, this, Bool.and_true]

def laTo (ws gs : List Int) (a : Int) : Nat → Bool
  | 0 => false
  | t + 1 => laTo ws gs a t || (partB (t : Int) a && leastB ws gs (t : Int))
theorem laTo_true (ws gs : List Int) (a : Int) (t n : Nat) (ht : t < n) (h : (partB (t : Int) a && leastB ws gs (t : Int)) = true) : laTo ws gs a n = true := by
  induction n with
  | zero => omega
  | succ n ih =>
    simp only [laTo]
    by_cases e : t = n
    · subst e; rw [h]; simp
    · rw [ih (by omega)]; rfl
end Go.Proofs.Ytfkbknkmanphfaa.Q
