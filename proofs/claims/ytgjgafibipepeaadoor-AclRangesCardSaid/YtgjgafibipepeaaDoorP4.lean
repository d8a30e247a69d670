import Derived.Test.YtgjgafibipepeaaDoorP3
import Derived.Lib.DecodeN
import Derived.Lib.Strings
namespace Go.Proofs.YtgjgafibipepeaaDoor.Q
open Go.Lib
set_option linter.unusedVariables false
set_option linter.unusedSimpArgs false

/-! NAMES -/
/-- may a code point stand in a name? -/
def okC (c : Nat) : Bool := decide ((97 ≤ c ∧ c ≤ 122) ∨ (48 ≤ c ∧ c ≤ 57) ∨ c = 46 ∨ c = 95 ∨ c = 45)
def okB (b : UInt8) : Bool := okC b.toNat
def nameB (l : List UInt8) : Bool := l.all okB && decide (1 ≤ l.length) && decide (l.length ≤ 24)
theorem decode_low (s : ByteArray) (i : Nat) (h : (s.get! i).toNat < 128) : Utf8.decode s i = ((s.get! i).toNat, 1) := by
  rw [decode_at]; unfold decodeN; rw [if_pos h]
theorem decode_high (s : ByteArray) (i : Nat) (h : 128 ≤ (s.get! i).toNat) : 128 ≤ (Utf8.decode s i).1 := by
  rw [decode_at]; unfold decodeN; rw [if_neg (by omega)]
  repeat' split
  all_goals (simp only; omega)
theorem decode_pos (s : ByteArray) (i : Nat) : 1 ≤ (Utf8.decode s i).2 := by
  rw [decode_at]
  unfold decodeN
  repeat' split
  all_goals simp
/-- the code point at a place is right just if the byte is -/
theorem okC_at (s : ByteArray) (i : Nat) : okC (Utf8.decode s i).1 = okC (s.get! i).toNat := by
  by_cases h : (s.get! i).toNat < 128
  · rw [decode_low s i h]
  · have h2 := decode_high s i (by omega)
    have e1 : okC (Utf8.decode s i).1 = false := by unfold okC; simp; omega
    have e2 : okC (s.get! i).toNat = false := by unfold okC; simp; omega
    rw [e1, e2]
theorem okC_one (s : ByteArray) (i : Nat) (h : okC (Utf8.decode s i).1 = true) : (Utf8.decode s i).2 = 1 := by
  by_cases hb : (s.get! i).toNat < 128
  · rw [decode_low s i hb]
  · have h2 := decode_high s i (by omega)
    unfold okC at h
    simp at h
    omega
theorem get_at (s : ByteArray) (i : Nat) (h : i < s.size) : s.data.toList[i]? = some (s.get! i) := by
  rw [Array.getElem?_toList]
  have h' : i < s.data.size := h
  rw [Array.getElem?_eq_getElem h']
  congr 1
  show s.data[i] = s.data[i]!
  rw [getElem!_pos s.data i h']
/-- all right up to a place -/
def okTo (s : ByteArray) (i : Nat) : Prop := ∀ j, j < i → okC (s.get! j).toNat = true
theorem okTo_all (s : ByteArray) (h : okTo s s.size) : s.data.toList.all okB = true := by
  rw [List.all_eq_true]
  intro b hb
  obtain ⟨j, hj, e⟩ := List.mem_iff_getElem.1 hb
  have hj' : j < s.size := hj
  have := get_at s j hj'
  rw [List.getElem?_eq_getElem hj, e] at this
  rw [Option.some.inj this]
  exact h j hj'
theorem not_all (s : ByteArray) {i : Nat} (hi : i < s.size) (h : okC (s.get! i).toNat = false) : s.data.toList.all okB = false := by
  rw [Bool.eq_false_iff]
  intro ha
  have := List.all_eq_true.1 ha _ (List.mem_of_getElem? (get_at s i hi))
  unfold okB at this
  rw [h] at this; cases this
end Go.Proofs.YtgjgafibipepeaaDoor.Q
