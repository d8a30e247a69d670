import Derived.Test.YtkhnjckkjdldbaaDoorPr8
import Derived.Lib.DecodeN
import Derived.Lib.Strings
import Derived.Lib.Hide
namespace Go.Proofs.YtkhnjckkjdldbaaDoor.Q
open Go.RowKit Go.Proofs.YtkhnjckkjdldbaaDoorW.PrintWords Go.Proofs.YtkhnjckkjdldbaaDoor.Pr
set_option linter.unusedVariables false
set_option linter.unusedSimpArgs false

theorem w64 {x : Int} (h0 : -9223372036854775808 ≤ x) (h1 : x ≤ 9223372036854775807) : wrap64 x = x := by unfold wrap64; omega
/-! CODE POINTS -/
def mayB (c n : Int) : Bool := decide (¬ ((c = 65533 ∧ n < 2) ∨ c < 32 ∨ c = 47 ∨ (127 ≤ c ∧ c ≤ 159) ∨ (57344 ≤ c ∧ c ≤ 63743) ∨ (65520 ≤ c ∧ c ≤ 65535)))
theorem may_f (c n : Int) : path_may.f 5 c n = some (mayB c n) := by
  unfold path_may.f path_may.j0 path_may.j1 path_may.j2 path_may.j3 mayB
  by_cases h1 : c = 65533
  · subst h1; by_cases h2 : n < 2 <;> simp [h2]
  · by_cases h2 : c < 32
    · simp [h1, h2]
    · by_cases h3 : c = 47
      · subst h3; simp
      · by_cases h4 : c ≤ 159
        · by_cases h5 : 127 ≤ c
          · simp [h1, h2, h3, h4, h5]
          · have e1 : ¬ 57344 ≤ c := by omega
            have e2 : ¬ 65520 ≤ c := by omega
            simp [h1, h2, h3, h4, h5, e1, e2]
        · have h5 : 127 ≤ c := by omega
          by_cases h6 : 57344 ≤ c
          · by_cases h7 : c ≤ 63743
            · simp [h1, h2, h3, h4, h5, h6, h7]
            · by_cases h8 : 65520 ≤ c
              · by_cases h9 : c ≤ 65535 <;> simp [h1, h2, h3, h4, h5, h6, h7, h8, h9]
              · simp [h1, h2, h3, h4, h5, h6, h7, h8]
          · have e2 : ¬ 65520 ≤ c := by omega
            simp [h1, h2, h3, h4, h5, h6, e2]
def goodB (c : Int) : Bool := decide (¬ (c < 32 ∨ c = 47 ∨ (127 ≤ c ∧ c ≤ 159) ∨ (57344 ≤ c ∧ c ≤ 63743) ∨ (65520 ≤ c ∧ c ≤ 65535)))
theorem good_f (c : Int) : lagoonref05_Good.f c = some (goodB c) := by
  unfold lagoonref05_Good.f goodB
  by_cases h2 : c < 32
  · simp [h2]
  · by_cases h4 : c ≤ 159
    · by_cases h5 : 127 ≤ c
      · simp [h2, h4, h5]
      · have e1 : ¬ 57344 ≤ c := by omega
        have e2 : ¬ 65520 ≤ c := by omega
        by_cases h3 : c = 47 <;> simp [h2, h3, h4, h5, e1, e2]
    · have h5 : 127 ≤ c := by omega
      have h3 : ¬ c = 47 := by omega
      by_cases h6 : 57344 ≤ c
      · by_cases h7 : c ≤ 63743
        · simp [h2, h3, h4, h5, h6, h7]
        · by_cases h8 : 65520 ≤ c
          · by_cases h9 : c ≤ 65535 <;> simp [h2, h3, h4, h5, h6, h7, h8, h9]
          · simp [h2, h3, h4, h5, h6, h7, h8]
      · have e2 : ¬ 65520 ≤ c := by omega
        simp [h2, h3, h4, h5, h6, e2]
/-- what the reference's Point says -/
def ptOf (d : Nat × Nat) : Int × Int := if d.1 = 65533 ∧ d.2 = 1 then (-1, 1) else (d.1, d.2)
theorem ptOf_wide (c w : Nat) (h : w ≠ 1) : ptOf (c, w) = ((c : Int), (w : Int)) := by simp [ptOf, h]
theorem ptOf_bad : ptOf (65533, 1) = (-1, 1) := rfl
def pt (s : ByteArray) (i : Nat) : Int × Int := ptOf (Utf8.decode s i)
theorem bt_get (s : ByteArray) (i : Nat) (h : i < s.size) : bt s (i : Int) = ((s.get! i).toNat : Int) := by
  unfold bt
  rw [dif_pos (by omega)]
  simp only [Int.toNat_natCast]
  congr 2
  rw [ByteArray.get!]
  simp [Array.getElem!_eq_getD, h]
  rfl
section
variable {s : ByteArray} {i : Nat} (hs : s.size ≤ 4294967296)
include hs
theorem l0_go (k : Nat) (n j : Nat) (c least : Int) (b : Nat) (hj : j < n) (hn : n ≤ 4) (hin : i + j < s.size) (hb : (s.get! (i + j)).toNat = b) (h1 : 128 ≤ b) (h2 : b ≤ 191) (c0 : 0 ≤ c) (c1 : c ≤ 4294967296) :
    lagoonref05_Point.l0 (k + 1) s i n c least j = lagoonref05_Point.l0 k s i n (64 * c + b - 128) least ((j + 1 : Nat) : Int) := by
  have e0 : wrap64 ((i : Int) + (j : Int)) = ((i + j : Nat) : Int) := by rw [w64 (by omega) (by omega)]; omega
  rw [lagoonref05_Point.l0, e0, bt_get s (i + j) hin, hb, if_pos (by omega), if_neg (by omega), if_pos (by omega), if_pos (by omega), if_neg (by omega), if_neg (by omega)]
  rw [w64 (x := 64 * c) (by omega) (by omega), w64 (x := (b : Int)) (by omega) (by omega), w64 (x := 64 * c + b) (by omega) (by omega), w64 (x := 64 * c + b - 128) (by omega) (by omega), w64 (x := (j : Int) + 1) (by omega) (by omega)]
  rfl
theorem l0_out (k : Nat) (n j : Nat) (c least : Int) (hj : j < n) (hn : n ≤ 4) (hi : i ≤ s.size) (hin : ¬ i + j < s.size) :
    lagoonref05_Point.l0 (k + 1) s i n c least j = some (-1, 1) := by
  have e0 : wrap64 ((i : Int) + (j : Int)) = ((i + j : Nat) : Int) := by rw [w64 (by omega) (by omega)]; omega
  rw [lagoonref05_Point.l0, e0, if_pos (by omega), if_pos (by omega)]
theorem l0_bad (k : Nat) (n j : Nat) (c least : Int) (b : Nat) (hj : j < n) (hn : n ≤ 4) (hin : i + j < s.size) (hb : (s.get! (i + j)).toNat = b) (h : b < 128 ∨ 191 < b) :
    lagoonref05_Point.l0 (k + 1) s i n c least j = some (-1, 1) := by
  have e0 : wrap64 ((i : Int) + (j : Int)) = ((i + j : Nat) : Int) := by rw [w64 (by omega) (by omega)]; omega
  rw [lagoonref05_Point.l0, e0, bt_get s (i + j) hin, hb, if_pos (by omega), if_neg (by omega), if_pos (by omega), if_pos (by omega)]
  rcases h with h | h
  · rw [if_pos (by omega)]
  · rw [if_neg (by omega), if_pos (by omega)]
omit hs in
theorem l0_end (k : Nat) (n : Nat) (c least : Int) :
    lagoonref05_Point.l0 (k + 1) s i n c least (n : Int) = some (if c < least ∨ 1114111 < c ∨ (55296 ≤ c ∧ c ≤ 57343) then (-1, 1) else (c, (n : Int))) := by
  rw [lagoonref05_Point.l0, if_neg (by omega)]
  by_cases h1 : c < least
  · simp [h1]
  · by_cases h2 : c > 1114111
    · have : 1114111 < c := h2
      simp [h1, h2]
    · have e2 : ¬ 1114111 < c := by omega
      by_cases h3 : 55296 ≤ c
      · by_cases h4 : c ≤ 57343 <;> simp [h1, e2, h3, h4]
      · simp [h1, e2, h3]
/-- one byte behind the first: it is one of a code point, or nothing is -/
theorem l0_step (k : Nat) (n j : Nat) (c least : Int) (b : Nat) (hj : j < n) (hn : n ≤ 4) (hi : i ≤ s.size) (hb : (s.get! (i + j)).toNat = b) (c0 : 0 ≤ c) (c1 : c ≤ 4294967296) :
    lagoonref05_Point.l0 (k + 1) s i n c least j = if j < s.size - i ∧ b / 64 = 2 then lagoonref05_Point.l0 k s i n (64 * c + (b % 64 : Nat)) least ((j + 1 : Nat) : Int) else some (-1, 1) := by
  by_cases h1 : j < s.size - i
  · by_cases h2 : b / 64 = 2
    · rw [if_pos ⟨h1, h2⟩, l0_go hs k n j c least b hj hn (by omega) hb (by omega) (by omega) c0 c1]
      congr 1; omega
    · rw [if_neg (fun h => h2 h.2), l0_bad hs k n j c least b hj hn (by omega) hb (by omega)]
  · rw [if_neg (fun h => h1 h.1), l0_out hs k n j c least hj hn hi (by omega)]
end
theorem point_f (s : ByteArray) (i : Nat) (hs : s.size ≤ 4294967296) (hi : i < s.size) : lagoonref05_Point.f 12 s i = some (pt s i) := by
  unfold pt
  rw [Lib.decode_at]
  obtain ⟨b0, h0⟩ : ∃ b, (s.get! i).toNat = b := ⟨_, rfl⟩
  obtain ⟨b1, h1⟩ : ∃ b, (s.get! (i + 1)).toNat = b := ⟨_, rfl⟩
  obtain ⟨b2, h2⟩ : ∃ b, (s.get! (i + 2)).toNat = b := ⟨_, rfl⟩
  obtain ⟨b3, h3⟩ : ∃ b, (s.get! (i + 3)).toNat = b := ⟨_, rfl⟩
  have l0 : b0 < 256 := by rw [← h0]; exact UInt8.toNat_lt _
  have hbt : wrap64 (bt s i) = (b0 : Int) := by rw [bt_get s i hi, h0, w64 (by omega) (by omega)]
  obtain ⟨n, hn⟩ : ∃ n, s.size - i = n := ⟨_, rfl⟩
  rw [h0, h1, h2, h3, hn]
  have ST : ∀ (k m j : Nat) (c least : Int) (b : Nat), j < m → m ≤ 4 → (s.get! (i + j)).toNat = b → 0 ≤ c → c ≤ 4294967296 → lagoonref05_Point.l0 (k + 1) s i m c least j = if j < n ∧ b / 64 = 2 then lagoonref05_Point.l0 k s i m (64 * c + (b % 64 : Nat)) least ((j + 1 : Nat) : Int) else some (-1, 1) := fun k m j c least b a1 a2 a3 a4 a5 => by
    rw [← hn]; exact l0_step hs k m j c least b a1 a2 (by omega) a3 a4 a5
  have EN := fun (k m : Nat) (c least : Int) => l0_end (s := s) (i := i) k m c least
  by_cases c1 : b0 < 128
  · have hd : Lib.decodeN n b0 b1 b2 b3 = (b0, 1) := by unfold Lib.decodeN; rw [if_pos c1]
    rw [hd]
    unfold lagoonref05_Point.f
    rw [hbt, if_pos (by omega), if_pos (by omega), if_pos (by omega)]
    simp [ptOf]; omega
  by_cases c2 : b0 / 32 = 6
  · have hd : Lib.decodeN n b0 b1 b2 b3 = if 1 < n ∧ b1 / 64 = 2 then (if b0 % 32 * 64 + b1 % 64 ≥ 128 then (b0 % 32 * 64 + b1 % 64, 2) else (65533, 1)) else (65533, 1) := by
      unfold Lib.decodeN
      rw [if_neg c1]
      by_cases h : 1 < n ∧ b1 / 64 = 2
      · rw [if_pos ⟨c2, h⟩, if_pos h]
      · rw [if_neg (fun x => h x.2), if_neg (fun x => by omega), if_neg (fun x => by omega), if_neg h]
    rw [hd]
    have e1 : decide ((b0 : Int) < 224) = true := by simp; omega
    have e3 : (64 * ((b0 : Int) - 192) + ((b1 % 64 : Nat) : Int)) = ((b0 % 32 * 64 + b1 % 64 : Nat) : Int) := by omega
    obtain ⟨v, hv⟩ : ∃ v, b0 % 32 * 64 + b1 % 64 = v := ⟨_, rfl⟩
    have S1 := ST 9 2 1 ((b0 : Int) - 192) 128 b1 (by omega) (by omega) h1 (by omega) (by omega)
    rw [e3, hv] at S1
    rw [hv]
    unfold lagoonref05_Point.f
    rw [hbt, if_pos (by omega), if_pos (by omega), if_neg (by omega), if_pos (by omega), e1, lagoonref05_Point.j0, if_pos rfl, w64 (by omega) (by omega), lagoonref05_Point.j2]
    refine S1.trans ?_
    by_cases c3 : 1 < n ∧ b1 / 64 = 2
    · rw [if_pos c3, if_pos c3, EN]
      by_cases c4 : v ≥ 128
      · rw [if_pos c4, if_neg (by omega), ptOf_wide _ _ (by decide)]
      · rw [if_neg c4, if_pos (by omega)]; rfl
    · rw [if_neg c3, if_neg c3]; rfl
  by_cases c3 : b0 / 16 = 14
  · have hd : Lib.decodeN n b0 b1 b2 b3 = if 1 < n ∧ b1 / 64 = 2 then (if 2 < n ∧ b2 / 64 = 2 then (if b0 % 16 * 4096 + b1 % 64 * 64 + b2 % 64 ≥ 2048 ∧ (b0 % 16 * 4096 + b1 % 64 * 64 + b2 % 64 < 55296 ∨ (57344 ≤ b0 % 16 * 4096 + b1 % 64 * 64 + b2 % 64 ∧ b0 % 16 * 4096 + b1 % 64 * 64 + b2 % 64 ≤ 1114111)) then (b0 % 16 * 4096 + b1 % 64 * 64 + b2 % 64, 3) else (65533, 1)) else (65533, 1)) else (65533, 1) := by
      unfold Lib.decodeN
      rw [if_neg c1, if_neg (fun x => c2 x.1)]
      by_cases h : 1 < n ∧ b1 / 64 = 2
      · by_cases h' : 2 < n ∧ b2 / 64 = 2
        · rw [if_pos ⟨c3, h, h'⟩, if_pos h, if_pos h']
        · rw [if_neg (fun x => h' x.2.2), if_neg (fun x => by omega), if_pos h, if_neg h']
      · rw [if_neg (fun x => h x.2.1), if_neg (fun x => by omega), if_neg h]
    rw [hd]
    have e1 : decide ((b0 : Int) < 224) = false := by simp; omega
    have e2 : decide ((b0 : Int) < 240) = true := by simp; omega
    have e3 : (64 * (64 * ((b0 : Int) - 224) + ((b1 % 64 : Nat) : Int)) + ((b2 % 64 : Nat) : Int)) = ((b0 % 16 * 4096 + b1 % 64 * 64 + b2 % 64 : Nat) : Int) := by omega
    have S1 := ST 8 3 1 ((b0 : Int) - 224) 2048 b1 (by omega) (by omega) h1 (by omega) (by omega)
    have S2 := ST 7 3 2 (64 * ((b0 : Int) - 224) + ((b1 % 64 : Nat) : Int)) 2048 b2 (by omega) (by omega) h2 (by omega) (by omega)
    obtain ⟨v, hv⟩ : ∃ v, b0 % 16 * 4096 + b1 % 64 * 64 + b2 % 64 = v := ⟨_, rfl⟩
    rw [e3, hv] at S2
    rw [hv]
    unfold lagoonref05_Point.f
    rw [hbt, if_pos (by omega), if_pos (by omega), if_neg (by omega), if_pos (by omega), e1, lagoonref05_Point.j0, if_neg (by simp), if_pos (by omega), e2, lagoonref05_Point.j1, if_pos rfl, w64 (by omega) (by omega), lagoonref05_Point.j2]
    refine S1.trans ?_
    by_cases c4 : 1 < n ∧ b1 / 64 = 2
    · rw [if_pos c4, if_pos c4]
      refine S2.trans ?_
      by_cases c5 : 2 < n ∧ b2 / 64 = 2
      · rw [if_pos c5, if_pos c5, EN]
        by_cases c6 : v ≥ 2048 ∧ (v < 55296 ∨ (57344 ≤ v ∧ v ≤ 1114111))
        · rw [if_pos c6, if_neg (by omega), ptOf_wide _ _ (by decide)]
        · rw [if_neg c6, if_pos (by omega)]; rfl
      · rw [if_neg c5, if_neg c5]; rfl
    · rw [if_neg c4, if_neg c4]; rfl
  by_cases c4 : b0 / 8 = 30
  · have hd : Lib.decodeN n b0 b1 b2 b3 = if 1 < n ∧ b1 / 64 = 2 then (if 2 < n ∧ b2 / 64 = 2 then (if 3 < n ∧ b3 / 64 = 2 then (if b0 % 8 * 262144 + b1 % 64 * 4096 + b2 % 64 * 64 + b3 % 64 ≥ 65536 ∧ (b0 % 8 * 262144 + b1 % 64 * 4096 + b2 % 64 * 64 + b3 % 64 < 55296 ∨ (57344 ≤ b0 % 8 * 262144 + b1 % 64 * 4096 + b2 % 64 * 64 + b3 % 64 ∧ b0 % 8 * 262144 + b1 % 64 * 4096 + b2 % 64 * 64 + b3 % 64 ≤ 1114111)) then (b0 % 8 * 262144 + b1 % 64 * 4096 + b2 % 64 * 64 + b3 % 64, 4) else (65533, 1)) else (65533, 1)) else (65533, 1)) else (65533, 1) := by
      unfold Lib.decodeN
      rw [if_neg c1, if_neg (fun x => c2 x.1), if_neg (fun x => c3 x.1)]
      by_cases h : 1 < n ∧ b1 / 64 = 2
      · by_cases h' : 2 < n ∧ b2 / 64 = 2
        · by_cases h'' : 3 < n ∧ b3 / 64 = 2
          · rw [if_pos ⟨c4, h, h', h''⟩, if_pos h, if_pos h', if_pos h'']
          · rw [if_neg (fun x => h'' x.2.2.2), if_pos h, if_pos h', if_neg h'']
        · rw [if_neg (fun x => h' x.2.2.1), if_pos h, if_neg h']
      · rw [if_neg (fun x => h x.2.1), if_neg h]
    rw [hd]
    have e1 : decide ((b0 : Int) < 224) = false := by simp; omega
    have e2 : decide ((b0 : Int) < 240) = false := by simp; omega
    have e3 : (64 * (64 * (64 * ((b0 : Int) - 240) + ((b1 % 64 : Nat) : Int)) + ((b2 % 64 : Nat) : Int)) + ((b3 % 64 : Nat) : Int)) = ((b0 % 8 * 262144 + b1 % 64 * 4096 + b2 % 64 * 64 + b3 % 64 : Nat) : Int) := by omega
    have S1 := ST 8 4 1 ((b0 : Int) - 240) 65536 b1 (by omega) (by omega) h1 (by omega) (by omega)
    have S2 := ST 7 4 2 (64 * ((b0 : Int) - 240) + ((b1 % 64 : Nat) : Int)) 65536 b2 (by omega) (by omega) h2 (by omega) (by omega)
    have S3 := ST 6 4 3 (64 * (64 * ((b0 : Int) - 240) + ((b1 % 64 : Nat) : Int)) + ((b2 % 64 : Nat) : Int)) 65536 b3 (by omega) (by omega) h3 (by omega) (by omega)
    obtain ⟨v, hv⟩ : ∃ v, b0 % 8 * 262144 + b1 % 64 * 4096 + b2 % 64 * 64 + b3 % 64 = v := ⟨_, rfl⟩
    rw [e3, hv] at S3
    rw [hv]
    unfold lagoonref05_Point.f
    rw [hbt, if_pos (by omega), if_pos (by omega), if_neg (by omega), if_pos (by omega), e1, lagoonref05_Point.j0, if_neg (by simp), if_pos (by omega), e2, lagoonref05_Point.j1, if_neg (by simp), if_pos (by omega), if_pos (by omega), w64 (by omega) (by omega), lagoonref05_Point.j2]
    refine S1.trans ?_
    by_cases c5 : 1 < n ∧ b1 / 64 = 2
    · rw [if_pos c5, if_pos c5]
      refine S2.trans ?_
      by_cases c6 : 2 < n ∧ b2 / 64 = 2
      · rw [if_pos c6, if_pos c6]
        refine S3.trans ?_
        by_cases c7 : 3 < n ∧ b3 / 64 = 2
        · rw [if_pos c7, if_pos c7, EN]
          by_cases c8 : v ≥ 65536 ∧ (v < 55296 ∨ (57344 ≤ v ∧ v ≤ 1114111))
          · rw [if_pos c8, if_neg (by omega), ptOf_wide _ _ (by decide)]
          · rw [if_neg c8, if_pos (by omega)]; rfl
        · rw [if_neg c7, if_neg c7]; rfl
      · rw [if_neg c6, if_neg c6]; rfl
    · rw [if_neg c5, if_neg c5]; rfl
  have hd : Lib.decodeN n b0 b1 b2 b3 = (65533, 1) := by
    unfold Lib.decodeN
    rw [if_neg c1, if_neg (fun x => c2 x.1), if_neg (fun x => c3 x.1), if_neg (fun x => c4 x.1)]
  rw [hd, ptOf_bad]
  unfold lagoonref05_Point.f
  rw [hbt, if_pos (by omega), if_pos (by omega), if_neg (by omega)]
  by_cases c5 : b0 < 192
  · rw [if_neg (by omega), lagoonref05_Point.j0, if_neg (by simp), if_neg (by omega), lagoonref05_Point.j1, if_neg (by simp), if_neg (by omega)]
  · have e1 : decide ((b0 : Int) < 224) = false := by simp; omega
    have e2 : decide ((b0 : Int) < 240) = false := by simp; omega
    rw [if_pos (by omega), e1, lagoonref05_Point.j0, if_neg (by simp), if_pos (by omega), e2, lagoonref05_Point.j1, if_neg (by simp), if_pos (by omega), if_neg (by omega)]
end Go.Proofs.YtkhnjckkjdldbaaDoor.Q
