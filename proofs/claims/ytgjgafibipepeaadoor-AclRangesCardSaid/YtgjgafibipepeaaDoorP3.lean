import Derived.Test.YtgjgafibipepeaaDoorP2
namespace Go.Proofs.YtgjgafibipepeaaDoor.Q
set_option linter.unusedVariables false
set_option linter.unusedSimpArgs false

/-! BITS -/
def byteAt (q : Quad) : Nat → Nat
  | 0 => q.1
  | 1 => q.2.1
  | 2 => q.2.2.1
  | _ => q.2.2.2
def bitQ (q : Quad) (i : Nat) : Nat := byteAt q (i / 8) / 2 ^ (7 - i % 8) % 2
/-- the first bits are the same -/
def agree (n : Nat) (p q : Quad) : Prop := ∀ i, i < n → bitQ p i = bitQ q i
instance (n : Nat) (p q : Quad) : Decidable (agree n p q) := by unfold agree; infer_instance
def keep (n i : Nat) : Nat := min (n - 8 * i) 8
def top (k x : Nat) : Nat := x / 2 ^ (8 - k) * 2 ^ (8 - k)
def cutQ (n : Nat) (q : Quad) : Quad := (top (keep n 0) q.1, top (keep n 1) q.2.1, top (keep n 2) q.2.2.1, top (keep n 3) q.2.2.2)
theorem top_eq {a b k : Nat} (ha : a ≤ 255) (hb : b ≤ 255) (hk : k ≤ 8) : top k a = top k b ↔ ∀ j, j < k → a / 2 ^ (7 - j) % 2 = b / 2 ^ (7 - j) % 2 := by
  have h9 : k = 0 ∨ k = 1 ∨ k = 2 ∨ k = 3 ∨ k = 4 ∨ k = 5 ∨ k = 6 ∨ k = 7 ∨ k = 8 := by omega
  constructor
  · intro h j hj
    have hj9 : j = 0 ∨ j = 1 ∨ j = 2 ∨ j = 3 ∨ j = 4 ∨ j = 5 ∨ j = 6 ∨ j = 7 := by omega
    unfold top at h
    rcases h9 with rfl | rfl | rfl | rfl | rfl | rfl | rfl | rfl | rfl <;>
    rcases hj9 with rfl | rfl | rfl | rfl | rfl | rfl | rfl | rfl <;> first | (exfalso; omega) | (simp only [Nat.reduceSub, Nat.reducePow] at h ⊢; omega)
  · intro h
    unfold top
    have g : ∀ j, j < k → a / 2 ^ (7 - j) % 2 = b / 2 ^ (7 - j) % 2 := h
    rcases h9 with rfl | rfl | rfl | rfl | rfl | rfl | rfl | rfl | rfl
    · simp only [Nat.reduceSub, Nat.reducePow]; omega
    · have g0 := g 0 (by omega)
      simp only [Nat.reduceSub, Nat.reducePow] at *; omega
    · have g0 := g 0 (by omega); have g1 := g 1 (by omega)
      simp only [Nat.reduceSub, Nat.reducePow] at *; omega
    · have g0 := g 0 (by omega); have g1 := g 1 (by omega); have g2 := g 2 (by omega)
      simp only [Nat.reduceSub, Nat.reducePow] at *; omega
    · have g0 := g 0 (by omega); have g1 := g 1 (by omega); have g2 := g 2 (by omega); have g3 := g 3 (by omega)
      simp only [Nat.reduceSub, Nat.reducePow] at *; omega
    · have g0 := g 0 (by omega); have g1 := g 1 (by omega); have g2 := g 2 (by omega); have g3 := g 3 (by omega); have g4 := g 4 (by omega)
      simp only [Nat.reduceSub, Nat.reducePow] at *; omega
    · have g0 := g 0 (by omega); have g1 := g 1 (by omega); have g2 := g 2 (by omega); have g3 := g 3 (by omega); have g4 := g 4 (by omega); have g5 := g 5 (by omega)
      simp only [Nat.reduceSub, Nat.reducePow] at *; omega
    · have g0 := g 0 (by omega); have g1 := g 1 (by omega); have g2 := g 2 (by omega); have g3 := g 3 (by omega); have g4 := g 4 (by omega); have g5 := g 5 (by omega); have g6 := g 6 (by omega)
      simp only [Nat.reduceSub, Nat.reducePow] at *; omega
    · have g0 := g 0 (by omega); have g1 := g 1 (by omega); have g2 := g 2 (by omega); have g3 := g 3 (by omega); have g4 := g 4 (by omega); have g5 := g 5 (by omega); have g6 := g 6 (by omega); have g7 := g 7 (by omega)
      simp only [Nat.reduceSub, Nat.reducePow] at *; omega
theorem keep_le (n i : Nat) : keep n i ≤ 8 := by unfold keep; omega
theorem cut_agree {n : Nat} {p q : Quad} (hn : n ≤ 32) (hp : small p) (hq : small q) : cutQ n p = cutQ n q ↔ agree n p q := by
  obtain ⟨a, b, c, d⟩ := p
  obtain ⟨a', b', c', d'⟩ := q
  obtain ⟨h1, h2, h3, h4⟩ := hp
  obtain ⟨g1, g2, g3, g4⟩ := hq
  unfold cutQ
  simp only [Prod.mk.injEq] at *
  rw [top_eq h1 g1 (keep_le _ _), top_eq h2 g2 (keep_le _ _), top_eq h3 g3 (keep_le _ _), top_eq h4 g4 (keep_le _ _)]
  unfold keep
  constructor
  · rintro ⟨k1, k2, k3, k4⟩ i hi
    unfold bitQ
    have hd : i / 8 = 0 ∨ i / 8 = 1 ∨ i / 8 = 2 ∨ i / 8 = 3 := by omega
    rcases hd with e | e | e | e <;> rw [e]
    · exact k1 (i % 8) (by omega)
    · exact k2 (i % 8) (by omega)
    · exact k3 (i % 8) (by omega)
    · exact k4 (i % 8) (by omega)
  · intro h
    refine ⟨fun j hj => ?_, fun j hj => ?_, fun j hj => ?_, fun j hj => ?_⟩
    · have := h j (by omega)
      unfold bitQ at this
      rw [show j / 8 = 0 by omega, show j % 8 = j by omega] at this
      exact this
    · have := h (8 + j) (by omega)
      unfold bitQ at this
      rw [show (8 + j) / 8 = 1 by omega, show (8 + j) % 8 = j by omega] at this
      exact this
    · have := h (16 + j) (by omega)
      unfold bitQ at this
      rw [show (16 + j) / 8 = 2 by omega, show (16 + j) % 8 = j by omega] at this
      exact this
    · have := h (24 + j) (by omega)
      unfold bitQ at this
      rw [show (24 + j) / 8 = 3 by omega, show (24 + j) % 8 = j by omega] at this
      exact this
/-- all bits as one number -/
def allQ (q : Quad) : Nat := ((q.1 * 256 + q.2.1) * 256 + q.2.2.1) * 256 + q.2.2.2
theorem all_bit {q : Quad} (hq : small q) {i : Nat} (hi : i < 32) : allQ q / 2 ^ (31 - i) % 2 = bitQ q i := by
  obtain ⟨a, b, c, d⟩ := q
  obtain ⟨h1, h2, h3, h4⟩ := hq
  simp only at h1 h2 h3 h4
  unfold allQ bitQ
  have hc : i = 0 ∨ i = 1 ∨ i = 2 ∨ i = 3 ∨ i = 4 ∨ i = 5 ∨ i = 6 ∨ i = 7 ∨ i = 8 ∨ i = 9 ∨ i = 10 ∨ i = 11 ∨ i = 12 ∨ i = 13 ∨ i = 14 ∨ i = 15 ∨ i = 16 ∨ i = 17 ∨ i = 18 ∨ i = 19 ∨ i = 20 ∨ i = 21 ∨ i = 22 ∨ i = 23 ∨ i = 24 ∨ i = 25 ∨ i = 26 ∨ i = 27 ∨ i = 28 ∨ i = 29 ∨ i = 30 ∨ i = 31 := by omega
  rcases hc with rfl | rfl | rfl | rfl | rfl | rfl | rfl | rfl | rfl | rfl | rfl | rfl | rfl | rfl | rfl | rfl | rfl | rfl | rfl | rfl | rfl | rfl | rfl | rfl | rfl | rfl | rfl | rfl | rfl | rfl | rfl | rfl <;>
    (simp only [Nat.reduceDiv, Nat.reduceMod, Nat.reduceSub, Nat.reducePow, byteAt]; omega)
end Go.Proofs.YtgjgafibipepeaaDoor.Q
