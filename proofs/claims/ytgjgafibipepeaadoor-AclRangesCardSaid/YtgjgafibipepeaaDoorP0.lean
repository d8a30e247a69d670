import Derived.Lib.AtoiAll
import Derived.Lib.ItoaMem
import Derived.Lib.Split
namespace Go.Proofs.YtgjgafibipepeaaDoor.Q
open Go.Lib
set_option linter.unusedVariables false
set_option linter.unusedSimpArgs false

/-! NUMBERS AS TEXTS -/
theorem dec_three {i : Nat} (h1 : ¬ i < 100) (h2 : i < 1000) : decDigits i = [UInt8.ofNat (48 + i / 100), UInt8.ofNat (48 + i / 10 % 10), UInt8.ofNat (48 + i % 10)] := by
  rw [decDigits, dif_neg (by omega), decDigits_two (by omega) (by omega)]
  simp only [List.cons_append, List.nil_append]
  rw [show i / 10 / 10 = i / 100 by omega]
/-- what digits are worth -/
def val (l : List UInt8) : Nat := l.foldl (fun a b => a * 10 + (b.toNat - 48)) 0
theorem val_append (l : List UInt8) (b : UInt8) : val (l ++ [b]) = val l * 10 + (b.toNat - 48) := by simp [val]
theorem ofNat_toNat {n : Nat} (h : n < 256) : (UInt8.ofNat n).toNat = n := by simp [UInt8.toNat_ofNat']; omega
theorem val_dec (k : Nat) : val (decDigits k) = k := by
  induction k using Nat.strongRecOn with
  | ind k ih =>
    rw [decDigits]
    split
    · rename_i h
      show 0 * 10 + ((UInt8.ofNat (48 + k)).toNat - 48) = k
      rw [ofNat_toNat (by omega)]
      omega
    · rename_i h
      rw [val_append, ih _ (by omega), ofNat_toNat (by omega)]
      omega
theorem dec_inj {a b : Nat} (h : decDigits a = decDigits b) : a = b := by rw [← val_dec a, ← val_dec b, h]
def isDig (b : UInt8) : Bool := decide (48 ≤ b.toNat ∧ b.toNat ≤ 57)
theorem dig_ofNat {d : Nat} (h : d < 10) : isDig (UInt8.ofNat (48 + d)) = true := by
  unfold isDig; rw [ofNat_toNat (by omega)]; simp; omega
theorem dec_digits (k : Nat) : ∀ b ∈ decDigits k, isDig b = true := by
  induction k using Nat.strongRecOn with
  | ind k ih =>
    rw [decDigits]
    split
    · intro b hb; rw [List.mem_singleton.1 hb]; exact dig_ofNat (by omega)
    · intro b hb
      rcases List.mem_append.1 hb with hb | hb
      · exact ih _ (by omega) b hb
      · rw [List.mem_singleton.1 hb]; exact dig_ofNat (by omega)
theorem dec_ne (k : Nat) : decDigits k ≠ [] := by
  rw [decDigits]; split <;> simp
/-- a number of at most so much, as it is written -/
def numB (most : Nat) (l : List UInt8) : Option Nat := if l = decDigits (val l) ∧ val l ≤ most then some (val l) else none
theorem numB_some {most : Nat} {l : List UInt8} {k : Nat} : numB most l = some k ↔ l = decDigits k ∧ k ≤ most := by
  unfold numB
  constructor
  · intro h
    split at h
    · rename_i hh; cases h; exact hh
    · cases h
  · rintro ⟨rfl, h⟩
    rw [val_dec, if_pos ⟨rfl, h⟩]
theorem parse_dec (k : Nat) (hk : k < 1000) : parseUint10 0 (decDigits k) = .ok k := by
  by_cases h1 : k < 10
  · rw [decDigits_one h1]
    unfold parseUint10
    rw [ofNat_toNat (by omega), if_pos (by omega), if_neg (by omega), if_neg (by omega)]
    simp [parseUint10]
  · by_cases h2 : k < 100
    · rw [decDigits_two h1 h2]
      simp only [parseUint10]
      rw [ofNat_toNat (by omega), ofNat_toNat (by omega), if_pos (by omega), if_neg (by omega), if_neg (by omega), if_pos (by omega), if_neg (by omega), if_neg (by omega)]
      congr 1; omega
    · rw [dec_three h2 hk]
      simp only [parseUint10]
      rw [ofNat_toNat (by omega), ofNat_toNat (by omega), ofNat_toNat (by omega), if_pos (by omega), if_neg (by omega), if_neg (by omega), if_pos (by omega), if_neg (by omega), if_neg (by omega), if_pos (by omega), if_neg (by omega), if_neg (by omega)]
      congr 1; omega
theorem atoi_dec (k : Nat) (hk : k < 1000) : atoiAll (decDigits k) = .ok (k : Int) := by
  have hp := parse_dec k hk
  have hne := dec_ne k
  have hd := dec_digits k
  match hl : decDigits k with
  | [] => exact absurd hl hne
  | c :: r =>
    rw [hl] at hp hd
    have hc := hd c List.mem_cons_self
    unfold isDig at hc
    simp only [decide_eq_true_eq] at hc
    unfold atoiAll
    simp only
    rw [if_neg (by omega)]
    unfold parseMag
    rw [if_neg (by simp), hp]
    simp only
    rw [if_neg (by omega), if_neg (by omega), if_neg (by omega)]
/-- number, of acl: what Atoi reads, if Itoa writes it so -/
theorem numB_of_ok {l : List UInt8} {v : Int} {most : Nat} (h : atoiAll l = .ok v) (h0 : 0 ≤ v) (h1 : v ≤ most) (hi : itoa v = l) : numB most l = some v.toNat := by
  obtain ⟨n, rfl⟩ := Int.eq_ofNat_of_zero_le h0
  rw [itoa_nonneg] at hi
  rw [numB_some]
  exact ⟨by simpa using hi.symm, by simpa using h1⟩
theorem numB_ok {l : List UInt8} {k most : Nat} (hm : most < 1000) (h : numB most l = some k) : atoiAll l = .ok (k : Int) ∧ itoa (k : Int) = l ∧ k ≤ most := by
  rw [numB_some] at h
  obtain ⟨rfl, hk⟩ := h
  exact ⟨atoi_dec k (by omega), itoa_nonneg k, hk⟩
end Go.Proofs.YtgjgafibipepeaaDoor.Q
