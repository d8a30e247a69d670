import Derived.Test.YtkhnjckkjdldbaaGreatDoorPr9
import Derived.Lib.DecodeN
import Derived.Lib.Strings
import Derived.Lib.Hide
namespace Go.Proofs.YtkhnjckkjdldbaaGreatDoor.Q
open Go.RowKit Go.Proofs.YtkhnjckkjdldbaaGreatDoorW.PrintWords Go.Proofs.YtkhnjckkjdldbaaGreatDoor.Pr
set_option linter.unusedVariables false
set_option linter.unusedSimpArgs false

theorem w64 {x : Int} (h0 : -9223372036854775808 ≤ x) (h1 : x ≤ 9223372036854775807) : wrap64 x = x := by unfold wrap64; omega
/-! CODE POINTS -/
def mayB (c n : Int) : Bool := decide (¬ ((c = 65533 ∧ n < 2) ∨ c < 32 ∨ c = 47 ∨ (127 ≤ c ∧ c ≤ 159) ∨ (57344 ≤ c ∧ c ≤ 63743) ∨ (65520 ≤ c ∧ c ≤ 65535)))
theorem may_f (c n : Int) : path_may.f 5 c n = some (mayB c n) := by
  unfold path_may.f path_may.j0 path_may.j1 path_may.j2 path_may.j3 mayB
  by_cases h1 : c = 65533
  · subst h1; by_cases h2 : n < 2 <;> simp [h2]
  · by_cases h2 : c < 32
    · simp [h1, h2]
    · by_cases h3 : c = 47
      · subst h3; simp
      · by_cases h4 : c ≤ 159
        · by_cases h5 : 127 ≤ c
          · simp [h1, h2, h3, h4, h5]
          · have e1 : ¬ 57344 ≤ c := by omega
            have e2 : ¬ 65520 ≤ c := by omega
            simp [h1, h2, h3, h4, h5, e1, e2]
        · have h5 : 127 ≤ c := by omega
          by_cases h6 : 57344 ≤ c
          · by_cases h7 : c ≤ 63743
            · simp [h1, h2, h3, h4, h5, h6, h7]
            · by_cases h8 : 65520 ≤ c
              · by_cases h9 : c ≤ 65535 <;> simp [h1, h2, h3, h4, h5, h6, h7, h8, h9]
              · simp [h1, h2, h3, h4, h5, h6, h7, h8]
          · have e2 : ¬ 65520 ≤ c := by omega
            simp [h1, h2, h3, h4, h5, h6, e2]
def goodB (c : Int) : Bool := decide (¬ (c < 32 ∨ c = 47 ∨ (127 ≤ c ∧ c ≤ 159) ∨ (57344 ≤ c ∧ c ≤ 63743) ∨ (65520 ≤ c ∧ c ≤ 65535)))
theorem good_f (c : Int) : lagoonref05_Good.f c = some (goodB c) := by
  unfold lagoonref05_Good.f goodB
  by_cases h2 : c < 32
  · simp [h2]
  · by_cases h4 : c ≤ 159
    · by_cases h5 : 127 ≤ c
      · simp [h2, h4, h5]
      · have e1 : ¬ 57344 ≤ c := by omega
        have e2 : ¬ 65520 ≤ c := by omega
        by_cases h3 : c = 47 <;> simp [h2, h3, h4, h5, e1, e2]
    · have h5 : 127 ≤ c := by omega
      have h3 : ¬ c = 47 := by omega
      by_cases h6 : 57344 ≤ c
      · by_cases h7 : c ≤ 63743
        · simp [h2, h3, h4, h5, h6, h7]
        · by_cases h8 : 65520 ≤ c
          · by_cases h9 : c ≤ 65535 <;> simp [h2, h3, h4, h5, h6, h7, h8, h9]
          · simp [h2, h3, h4, h5, h6, h7, h8]
      · have e2 : ¬ 65520 ≤ c := by omega
        simp [h2, h3, h4, h5, h6, e2]
/-- what the reference's Point says -/
def ptOf (d : Nat × Nat) : Int × Int := if d.1 = 65533 ∧ d.2 = 1 then (-1, 1) else (d.1, d.2)
theorem ptOf_wide (c w : Nat) (h : w ≠ 1) : ptOf (c, w) = ((c : Int), (w : Int)) := by simp [ptOf, h]
theorem ptOf_bad : ptOf (65533, 1) = (-1, 1) := rfl
def pt (s : ByteArray) (i : Nat) : Int × Int := ptOf (Utf8.decode s i)
theorem bt_get (s : ByteArray) (i : Nat) (h : i < s.size) : bt s (i : Int) = ((s.get! i).toNat : Int) := by
  unfold bt
  rw [dif_pos (by omega)]
  simp only [Int.toNat_natCast]
  congr 2
  rw [ByteArray.get!]
  simp [Array.getElem!_eq_getD, h]
  rfl
section
variable {s : ByteArray} {i : Nat} (hs : s.size ≤ 4294967296)
include hs
theorem l0_go (k : Nat) (n j : Nat) (c least : Int) (b : Nat) (hj : j < n) (hn : n ≤ 4) (hin : i + j < s.size) (hb : (s.get! (i + j)).toNat = b) (h1 : 128 ≤ b) (h2 : b ≤ 191) (c0 : 0 ≤ c) (c1 : c ≤ 4294967296) :
    lagoonref05_Point.l0 (k + 1) s i n c least j = lagoonref05_Point.l0 k s i n (64 * c + b - 128) least ((j + 1 : Nat) : Int) := by
  have e0 : wrap64 ((i : Int) + (j : Int)) = ((i + j : Nat) : Int) := by rw [w64 (by omega) (by omega)]; omega
  rw [lagoonref05_Point.l0, e0, bt_get s (i + j) hin, hb, if_pos (by omega), if_neg (by omega), if_pos (by omega), if_pos (by omega), if_neg (by omega), if_neg (by omega)]
  rw [w64 (x := 64 * c) (by omega) (by omega), w64 (x := (b : Int)) (by omega) (by omega), w64 (x := 64 * c + b) (by omega) (by omega), w64 (x := 64 * c + b - 128) (by omega) (by omega), w64 (x := (j : Int) + 1) (by omega) (by omega)]
  rfl
theorem l0_out (k : Nat) (n j : Nat) (c least : Int) (hj : j < n) (hn : n ≤ 4) (hi : i ≤ s.size) (hin : ¬ i + j < s.size) :
    lagoonref05_Point.l0 (k + 1) s i n c least j = some (-1, 1) := by
  have e0 : wrap64 ((i : Int) + (j : Int)) = ((i + j : Nat) : Int) := by rw [w64 (by omega) (by omega)]; omega
  rw [lagoonref05_Point.l0, e0, if_pos (by omega), if_pos (by omega)]
theorem l0_bad (k : Nat) (n j : Nat) (c least : Int) (b : Nat) (hj : j < n) (hn : n ≤ 4) (hin : i + j < s.size) (hb : (s.get! (i + j)).toNat = b) (h : b < 128 ∨ 191 < b) :
    lagoonref05_Point.l0 (k + 1) s i n c least j = some (-1, 1) := by
  have e0 : wrap64 ((i : Int) + (j : Int)) = ((i + j : Nat) : Int) := by rw [w64 (by omega) (by omega)]; omega
  rw [lagoonref05_Point.l0, e0, bt_get s (i + j) hin, hb, if_pos (by omega), if_neg (by omega), if_pos (by omega), if_pos (by omega)]
  rcases h with h | h
  · rw [if_pos (by omega)]
  · rw [if_neg (by omega), if_pos (by omega)]
omit hs in
theorem l0_end (k : Nat) (n : Nat) (c least : Int) :
    lagoonref05_Point.l0 (k + 1) s i n c least (n : Int) = some (if c < least ∨ 1114111 < c ∨ (55296 ≤ c ∧ c ≤ 57343) then (-1, 1) else (c, (n : Int))) := by
  rw [lagoonref05_Point.l0, if_neg (by omega)]
  by_cases h1 : c < least
  · simp [h1]
  · by_cases h2 : c > 1114111
    · have : 1114111 < c := h2
      simp [h1, h2]
    · have e2 : ¬ 1114111 < c := by omega
      by_cases h3 : 55296 ≤ c
      · by_cases h4 : c ≤ 57343 <;> simp [h1, e2, h3, h4]
      · simp [h1, e2, h3]
/-- one byte behind the first: it is one of a code point, or nothing is -/
theorem l0_step (k : Nat) (n j : Nat) (c least : Int) (b : Nat) (hj : j < n) (hn : n ≤ 4) (hi : i ≤ s.size) (hb : (s.get! (i + j)).toNat = b) (c0 : 0 ≤ c) (c1 : c ≤ 4294967296) :
    lagoonref05_Point.l0 (k + 1) s i n c least j = if j < s.size - i ∧ b / 64 = 2 then lagoonref05_Point.l0 k s i n (64 * c + (b % 64 : Nat)) least ((j + 1 : Nat) : Int) else some (-1, 1) := by
  by_cases h1 : j < s.size - i
  · by_cases h2 : b / 64 = 2
    · rw [if_pos ⟨h1, h2⟩, l0_go hs k n j c least b hj hn (by omega) hb (by omega) (by omega) c0 c1]
      congr 1; omega
    · rw [if_neg (fun h => h2 h.2), l0_bad hs k n j c least b hj hn (by omega) hb (by omega)]
  · rw [if_neg (fun h => h1 h.1), l0_out hs k n j c least hj hn hi (by omega)]
end
theorem point_f (s : ByteArray) (i : Nat) (hs : s.size ≤ 4294967296) (hi : i < s.size) : lagoonref05_Point.f 12 s i = some (pt s i) := by
  unfold pt
  rw [Lib.decode_at]
  obtain ⟨b0, h0⟩ : ∃ b, (s.get! i).toNat = b := ⟨_, rfl⟩
  obtain ⟨b1, h1⟩ : ∃ b, (s.get! (i + 1)).toNat = b := ⟨_, rfl⟩
  obtain ⟨b2, h2⟩ : ∃ b, (s.get! (i + 2)).toNat = b := ⟨_, rfl⟩
  obtain ⟨b3, h3⟩ : ∃ b, (s.get! (i + 3)).toNat = b := ⟨_, rfl⟩
  have l0 : b0 < 256 := by rw [← h0]; exact UInt8.toNat_lt _
  have hbt : wrap64 (bt s i) = (b0 : Int) := by rw [bt_get s i hi, h0, w64 (by omega) (by omega)]
  obtain ⟨n, hn⟩ : ∃ n, s.size - i = n := ⟨_, rfl⟩
  rw [h0, h1, h2, h3, hn]
  have ST : ∀ (k m j : Nat) (c least : Int) (b : Nat), j < m → m ≤ 4 → (s.get! (i + j)).toNat = b → 0 ≤ c → c ≤ 4294967296 → lagoonref05_Point.l0 (k + 1) s i m c least j = if j < n ∧ b / 64 = 2 then lagoonref05_Point.l0 k s i m (64 * c + (b % 64 : Nat)) least ((j + 1 : Nat) : Int) else some (-1, 1) := fun k m j c least b a1 a2 a3 a4 a5 => by
    rw [← hn]; exact l0_step hs k m j c least b a1 a2 (by omega) a3 a4 a5
  have EN := fun (k m : Nat) (c least : Int) => l0_end (s := s) (i := i) k m c least
  by_cases c1 : b0 < 128
  · have hd : Lib.decodeN n b0 b1 b2 b3 = (b0, 1) := by unfold Lib.decodeN; rw [if_pos c1]
    rw [hd]
    unfold lagoonref05_Point.f
    rw [hbt, if_pos (by omega), if_pos (by omega), if_pos (by omega)]
    simp [ptOf]; omega
  by_cases c2 : b0 / 32 = 6
  · have hd : Lib.decodeN n b0 b1 b2 b3 = if 1 < n ∧ b1 / 64 = 2 then (if b0 % 32 * 64 + b1 % 64 ≥ 128 then (b0 % 32 * 64 + b1 % 64, 2) else (65533, 1)) else (65533, 1) := by
      unfold Lib.decodeN
      rw [if_neg c1]
      by_cases h : 1 < n ∧ b1 / 64 = 2
      · rw [if_pos ⟨c2, h⟩, if_pos h]
      · rw [if_neg (fun x => h x.2), if_neg (fun x => by omega), if_neg (fun x => by omega), if_neg h]
    rw [hd]
    have e1 : decide ((b0 : Int) < 224) = true := by simp; omega
    have e3 : (64 * ((b0 : Int) - 192) + ((b1 % 64 : Nat) : Int)) = ((b0 % 32 * 64 + b1 % 64 : Nat) : Int) := by omega
    obtain ⟨v, hv⟩ : ∃ v, b0 % 32 * 64 + b1 % 64 = v := ⟨_, rfl⟩
    have S1 := ST 9 2 1 ((b0 : Int) - 192) 128 b1 (by omega) (by omega) h1 (by omega) (by omega)
    rw [e3, hv] at S1
    rw [hv]
    unfold lagoonref05_Point.f
    rw [hbt, if_pos (by omega), if_pos (by omega), if_neg (by omega), if_pos (by omega), e1, lagoonref05_Point.j0, if_pos rfl, w64 (by omega) (by omega), lagoonref05_Point.j2]
    refine S1.trans ?_
    by_cases c3 : 1 < n ∧ b1 / 64 = 2
    · rw [if_pos c3, if_pos c3, EN]
      by_cases c4 : v ≥ 128
      · rw [if_pos c4, if_neg (by omega), ptOf_wide _ _ (by decide)]
      · rw [if_neg c4, if_pos (by omega)]; rfl
    · rw [if_neg c3, if_neg c3]; rfl
  by_cases c3 : b0 / 16 = 14
  · have hd : Lib.decodeN n b0 b1 b2 b3 = if 1 < n ∧ b1 / 64 = 2 then (if 2 < n ∧ b2 / 64 = 2 then (if b0 % 16 * 4096 + b1 % 64 * 64 + b2 % 64 ≥ 2048 ∧ (b0 % 16 * 4096 + b1 % 64 * 64 + b2 % 64 < 55296 ∨ (57344 ≤ b0 % 16 * 4096 + b1 % 64 * 64 + b2 % 64 ∧ b0 % 16 * 4096 + b1 % 64 * 64 + b2 % 64 ≤ 1114111)) then (b0 % 16 * 4096 + b1 % 64 * 64 + b2 % 64, 3) else (65533, 1)) else (65533, 1)) else (65533, 1) := by
      unfold Lib.decodeN
      rw [if_neg c1, if_neg (fun x => c2 x.1)]
      by_cases h : 1 < n ∧ b1 / 64 = 2
      · by_cases h' : 2 < n ∧ b2 / 64 = 2
        · rw [if_pos ⟨c3, h, h'⟩, if_pos h, if_pos h']
        · rw [if_neg (fun x => h' x.2.2), if_neg (fun x => by omega), if_pos h, if_neg h']
      · rw [if_neg (fun x => h x.2.1), if_neg (fun x => by omega), if_neg h]
    rw [hd]
    have e1 : decide ((b0 : Int) < 224) = false := by simp; omega
    have e2 : decide ((b0 : Int) < 240) = true := by simp; omega
    have e3 : (64 * (64 * ((b0 : Int) - 224) + ((b1 % 64 : Nat) : Int)) + ((b2 % 64 : Nat) : Int)) = ((b0 % 16 * 4096 + b1 % 64 * 64 + b2 % 64 : Nat) : Int) := by omega
    have S1 := ST 8 3 1 ((b0 : Int) - 224) 2048 b1 (by omega) (by omega) h1 (by omega) (by omega)
    have S2 := ST 7 3 2 (64 * ((b0 : Int) - 224) + ((b1 % 64 : Nat) : Int)) 2048 b2 (by omega) (by omega) h2 (by omega) (by omega)
    obtain ⟨v, hv⟩ : ∃ v, b0 % 16 * 4096 + b1 % 64 * 64 + b2 % 64 = v := ⟨_, rfl⟩
    rw [e3, hv] at S2
    rw [hv]
    unfold lagoonref05_Point.f
    rw [hbt, if_pos (by omega), if_pos (by omega), if_neg (by omega), if_pos (by omega), e1, lagoonref05_Point.j0, if_neg (by simp), if_pos (by omega), e2, lagoonref05_Point.j1, if_pos rfl, w64 (by omega) (by omega), lagoonref05_Point.j2]
    refine S1.trans ?_
    by_cases c4 : 1 < n ∧ b1 / 64 = 2
    · rw [if_pos c4, if_pos c4]
      refine S2.trans ?_
      by_cases c5 : 2 < n ∧ b2 / 64 = 2
      · rw [if_pos c5, if_pos c5, EN]
        by_cases c6 : v ≥ 2048 ∧ (v < 55296 ∨ (57344 ≤ v ∧ v ≤ 1114111))
        · rw [if_pos c6, if_neg (by omega), ptOf_wide _ _ (by decide)]
        · rw [if_neg c6, if_pos (by omega)]; rfl
      · rw [if_neg c5, if_neg c5]; rfl
    · rw [if_neg c4, if_neg c4]; rfl
  by_cases c4 : b0 / 8 = 30
  · have hd : Lib.decodeN n b0 b1 b2 b3 = if 1 < n ∧ b1 / 64 = 2 then (if 2 < n ∧ b2 / 64 = 2 then (if 3 < n ∧ b3 / 64 = 2 then (if b0 % 8 * 262144 + b1 % 64 * 4096 + b2 % 64 * 64 + b3 % 64 ≥ 65536 ∧ (b0 % 8 * 262144 + b1 % 64 * 4096 + b2 % 64 * 64 + b3 % 64 < 55296 ∨ (57344 ≤ b0 % 8 * 262144 + b1 % 64 * 4096 + b2 % 64 * 64 + b3 % 64 ∧ b0 % 8 * 262144 + b1 % 64 * 4096 + b2 % 64 * 64 + b3 % 64 ≤ 1114111)) then (b0 % 8 * 262144 + b1 % 64 * 4096 + b2 % 64 * 64 + b3 % 64, 4) else (65533, 1)) else (65533, 1)) else (65533, 1)) else (65533, 1) := by
      unfold Lib.decodeN
      rw [if_neg c1, if_neg (fun x => c2 x.1), if_neg (fun x => c3 x.1)]
      by_cases h : 1 < n ∧ b1 / 64 = 2
      · by_cases h' : 2 < n ∧ b2 / 64 = 2
        · by_cases h'' : 3 < n ∧ b3 / 64 = 2
          · rw [if_pos ⟨c4, h, h', h''⟩, if_pos h, if_pos h', if_pos h'']
          · rw [if_neg (fun x => h'' x.2.2.2), if_pos h, if_pos h', if_neg h'']
        · rw [if_neg (fun x => h' x.2.2.1), if_pos h, if_neg h']
      · rw [if_neg (fun x => h x.2.1), if_neg h]
    rw [hd]
    have e1 : decide ((b0 : Int) < 224) = false := by simp; omega
    have e2 : decide ((b0 : Int) < 240) = false := by simp; omega
    have e3 : (64 * (64 * (64 * ((b0 : Int) - 240) + ((b1 % 64 : Nat) : Int)) + ((b2 % 64 : Nat) : Int)) + ((b3 % 64 : Nat) : Int)) = ((b0 % 8 * 262144 + b1 % 64 * 4096 + b2 % 64 * 64 + b3 % 64 : Nat) : Int) := by omega
    have S1 := ST 8 4 1 ((b0 : Int) - 240) 65536 b1 (by omega) (by omega) h1 (by omega) (by omega)
    have S2 := ST 7 4 2 (64 * ((b0 : Int) - 240) + ((b1 % 64 : Nat) : Int)) 65536 b2 (by omega) (by omega) h2 (by omega) (by omega)
    have S3 := ST 6 4 3 (64 * (64 * ((b0 : Int) - 240) + ((b1 % 64 : Nat) : Int)) + ((b2 % 64 : Nat) : Int)) 65536 b3 (by omega) (by omega) h3 (by omega) (by omega)
    obtain ⟨v, hv⟩ : ∃ v, b0 % 8 * 262144 + b1 % 64 * 4096 + b2 % 64 * 64 + b3 % 64 = v := ⟨_, rfl⟩
    rw [e3, hv] at S3
    rw [hv]
    unfold lagoonref05_Point.f
    rw [hbt, if_pos (by omega), if_pos (by omega), if_neg (by omega), if_pos (by omega), e1, lagoonref05_Point.j0, if_neg (by simp), if_pos (by omega), e2, lagoonref05_Point.j1, if_neg (by simp), if_pos (by omega), if_pos (by omega), w64 (by omega) (by omega), lagoonref05_Point.j2]
    refine S1.trans ?_
    by_cases c5 : 1 < n ∧ b1 / 64 = 2
    · rw [if_pos c5, if_pos c5]
      refine S2.trans ?_
      by_cases c6 : 2 < n ∧ b2 / 64 = 2
      · rw [if_pos c6, if_pos c6]
        refine S3.trans ?_
        by_cases c7 : 3 < n ∧ b3 / 64 = 2
        · rw [if_pos c7, if_pos c7, EN]
          by_cases c8 : v ≥ 65536 ∧ (v < 55296 ∨ (57344 ≤ v ∧ v ≤ 1114111))
          · rw [if_pos c8, if_neg (by omega), ptOf_wide _ _ (by decide)]
          · rw [if_neg c8, if_pos (by omega)]; rfl
        · rw [if_neg c7, if_neg c7]; rfl
      · rw [if_neg c6, if_neg c6]; rfl
    · rw [if_neg c5, if_neg c5]; rfl
  have hd : Lib.decodeN n b0 b1 b2 b3 = (65533, 1) := by
    unfold Lib.decodeN
    rw [if_neg c1, if_neg (fun x => c2 x.1), if_neg (fun x => c3 x.1), if_neg (fun x => c4 x.1)]
  rw [hd, ptOf_bad]
  unfold lagoonref05_Point.f
  rw [hbt, if_pos (by omega), if_pos (by omega), if_neg (by omega)]
  by_cases c5 : b0 < 192
  · rw [if_neg (by omega), lagoonref05_Point.j0, if_neg (by simp), if_neg (by omega), lagoonref05_Point.j1, if_neg (by simp), if_neg (by omega)]
  · have e1 : decide ((b0 : Int) < 224) = false := by simp; omega
    have e2 : decide ((b0 : Int) < 240) = false := by simp; omega
    rw [if_pos (by omega), e1, lagoonref05_Point.j0, if_neg (by simp), if_pos (by omega), e2, lagoonref05_Point.j1, if_neg (by simp), if_pos (by omega), if_neg (by omega)]
end Go.Proofs.YtkhnjckkjdldbaaGreatDoor.Q
namespace Go.Proofs.YtkhnjckkjdldbaaGreatDoor.Q
open Go.RowKit Go.Proofs.YtkhnjckkjdldbaaGreatDoorW.PrintWords Go.Proofs.YtkhnjckkjdldbaaGreatDoor.Pr
set_option linter.unusedVariables false
set_option linter.unusedSimpArgs false

theorem upLe {α : Type} {f : Nat → Option α} (hm : ∀ k, LeO (f k) (f (k + 1))) {k j : Nat} (h : k ≤ j) {r : α} (hr : f k = some r) : f j = some r := by
  induction j with
  | zero => obtain rfl : k = 0 := by omega
            exact hr
  | succ j ih =>
    by_cases e : k = j + 1
    · subst e; exact hr
    · exact hm j r (ih (by omega))
theorem toList_nil_iff (s : ByteArray) : s.toList = [] ↔ s.size = 0 := by
  rw [Lib.toList_data]
  constructor
  · intro h; rw [Lib.size_eq, h]; rfl
  · intro h; exact List.eq_nil_of_length_eq_zero (by rw [← Lib.size_eq]; exact h)
/-! A NAME'S FAULT -/
def okAt (s : ByteArray) (i : Nat) : Bool := mayB (Utf8.decode s i).1 (Utf8.decode s i).2
def wd (s : ByteArray) (i : Nat) : Nat := (Utf8.decode s i).2
theorem wd_pos {s : ByteArray} {i : Nat} : 1 ≤ wd s i := by
  unfold wd
  rw [Lib.decode_at]
  unfold Lib.decodeN
  repeat' split
  all_goals simp
theorem wd_le {s : ByteArray} {i : Nat} (h : i < s.size) : i + wd s i ≤ s.size := by
  unfold wd
  rw [Lib.decode_at]
  unfold Lib.decodeN
  repeat' split
  all_goals (simp only; omega)
theorem pt_wd (s : ByteArray) (i : Nat) : (pt s i).2 = (wd s i : Nat) := by
  unfold pt ptOf wd
  split
  · rename_i h; rw [h.2]; rfl
  · rfl
theorem pt_ok (s : ByteArray) (i : Nat) : okAt s i = true ↔ ¬ (pt s i).1 < 0 ∧ goodB (pt s i).1 = true := by
  unfold okAt pt ptOf mayB goodB
  have hw := wd_pos (s := s) (i := i)
  unfold wd at hw
  split
  · rename_i h
    rw [h.1, h.2]; simp
  · rename_i h
    simp only [decide_eq_true_eq]
    constructor
    · intro h1
      refine ⟨by omega, fun h2 => h1 ?_⟩
      rcases h2 with h2 | h2 | h2 | h2 | h2
      · exact .inr (.inl h2)
      · exact .inr (.inr (.inl h2))
      · exact .inr (.inr (.inr (.inl h2)))
      · exact .inr (.inr (.inr (.inr (.inl h2))))
      · exact .inr (.inr (.inr (.inr (.inr h2))))
    · rintro ⟨h1, h2⟩ h3
      rcases h3 with ⟨h3, h4⟩ | h3 | h3 | h3 | h3 | h3
      · exact h ⟨by omega, by omega⟩
      · exact h2 (.inl h3)
      · exact h2 (.inr (.inl h3))
      · exact h2 (.inr (.inr (.inl h3)))
      · exact h2 (.inr (.inr (.inr (.inl h3))))
      · exact h2 (.inr (.inr (.inr (.inr h3))))
def bad (s : ByteArray) (i : Nat) : Option Nat := if h : i < s.size then (if okAt s i then bad s (i + wd s i) else some i) else none
termination_by s.size - i
decreasing_by have := wd_pos (s := s) (i := i); omega
theorem bad_out {s : ByteArray} {i : Nat} (h : ¬ i < s.size) : bad s i = none := by rw [bad, dif_neg h]
theorem bad_yes {s : ByteArray} {i : Nat} (h : i < s.size) (k : okAt s i = false) : bad s i = some i := by rw [bad, dif_pos h, k]; simp
theorem bad_no {s : ByteArray} {i : Nat} (h : i < s.size) (k : okAt s i = true) : bad s i = bad s (i + wd s i) := by rw [bad, dif_pos h, if_pos k]
theorem bad_lt {s : ByteArray} {j : Nat} : ∀ {i : Nat}, bad s i = some j → i ≤ j ∧ j < s.size := by
  suffices ∀ n i, s.size - i ≤ n → bad s i = some j → i ≤ j ∧ j < s.size from fun {i} h => this _ i (Nat.le_refl _) h
  intro n
  induction n with
  | zero => intro i hi h; rw [bad_out (by omega)] at h; cases h
  | succ n ih =>
    intro i hi h
    by_cases h1 : i < s.size
    · cases h2 : okAt s i with
      | false => rw [bad_yes h1 h2] at h; obtain rfl := Option.some.inj h; exact ⟨Nat.le_refl _, h1⟩
      | true =>
        rw [bad_no h1 h2] at h
        have := wd_pos (s := s) (i := i)
        have := ih _ (by omega) h
        omega
    · rw [bad_out h1] at h; cases h
def special (s : ByteArray) : Prop := s.toList = [] ∨ s.toList = [46] ∨ s.toList = [46, 46]
instance (s : ByteArray) : Decidable (special s) := by unfold special; infer_instance
/-- the place of a name's first fault -/
def nameFault (s : ByteArray) : Option Nat :=
  if special s then some 0 else
  match bad s 0 with
  | some i => if i < 24 then some i else some 24
  | none => if 24 < s.size then some 24 else none
def nameOk (s : ByteArray) : Bool := (nameFault s).isNone
theorem nameOk_iff (s : ByteArray) : nameOk s = true ↔ ¬ special s ∧ bad s 0 = none ∧ s.size ≤ 24 := by
  unfold nameOk nameFault
  by_cases h : special s
  · simp [h]
  · rw [if_neg h]
    cases h2 : bad s 0 with
    | some i => by_cases h3 : i < 24 <;> simp [h3]
    | none => by_cases h3 : 24 < s.size <;> simp [h3, h] <;> omega
theorem nameFault_le {s : ByteArray} {j : Nat} (h : nameFault s = some j) : j ≤ s.size ∧ j ≤ 24 := by
  unfold nameFault at h
  by_cases h1 : special s
  · rw [if_pos h1] at h; obtain rfl := Option.some.inj h; omega
  · rw [if_neg h1] at h
    cases h2 : bad s 0 with
    | some i =>
      have := bad_lt h2
      rw [h2] at h
      by_cases h3 : i < 24
      · simp [h3] at h; omega
      · simp [h3] at h; omega
    | none =>
      rw [h2] at h
      by_cases h3 : 24 < s.size
      · simp [h3] at h; omega
      · simp [h3] at h
theorem name_l0 (s : ByteArray) (hs : s.size ≤ 4294967296) : ∀ n i k, s.size - i ≤ n → i ≤ s.size → 13 + n ≤ k → lagoonref05_Name.l0 k s (i : Nat) = some (bad s i).isNone := by
  intro n
  induction n with
  | zero =>
    intro i k hi h1 hk
    obtain ⟨k, rfl⟩ : ∃ j, k = j + 1 := ⟨k - 1, by omega⟩
    rw [lagoonref05_Name.l0, if_neg (by omega), bad_out (by omega)]; rfl
  | succ n ih =>
    intro i k hi h1 hk
    obtain ⟨k, rfl⟩ : ∃ j, k = j + 1 := ⟨k - 1, by omega⟩
    by_cases h2 : i < s.size
    · have hp : lagoonref05_Point.f k s (i : Nat) = some (pt s i) := upLe (fun k => lagoonref05_Point.mono s _ k) (by omega) (point_f s i hs h2)
      have hw := wd_pos (s := s) (i := i)
      have hw2 := wd_le h2
      rw [lagoonref05_Name.l0, if_pos (by omega), hp, Option.bind_some, pt_wd]
      cases h3 : okAt s i with
      | true =>
        obtain ⟨h4, h5⟩ := (pt_ok s i).1 h3
        rw [if_neg (by omega), good_f, Option.bind_some, if_pos h5, bad_no h2 h3, w64 (by omega) (by omega)]
        have := ih (i + wd s i) k (by omega) hw2 (by omega)
        rw [← this]; congr 1
      | false =>
        rw [bad_yes h2 h3]
        by_cases h4 : (pt s i).1 = -1
        · rw [if_pos h4]; rfl
        · rw [if_neg h4, good_f, Option.bind_some]
          have : ¬ goodB (pt s i).1 = true := fun h5 => by
            have h6 : ¬ (pt s i).1 < 0 := by
              unfold pt ptOf at h4 ⊢
              split at h4
              · simp at h4
              · rename_i h7; rw [if_neg h7]; simp only; omega
            have := (pt_ok s i).2 ⟨h6, h5⟩
            rw [h3] at this; cases this
          rw [if_neg this]; rfl
    · rw [lagoonref05_Name.l0, if_neg (by omega), bad_out h2]; rfl
theorem name_f (s : ByteArray) (hs : s.size ≤ 4294967296) (k : Nat) (hk : s.size + 20 ≤ k) : lagoonref05_Name.f k s = some (nameOk s) := by
  obtain ⟨k, rfl⟩ : ∃ j, k = j + 1 := ⟨k - 1, by omega⟩
  have hT : lagoonref05_Name.j0 (k + 1) s true = some false := by rw [lagoonref05_Name.j0, if_pos rfl]
  have hF : lagoonref05_Name.j0 (k + 1) s false = some (bad s 0).isNone := by
    rw [lagoonref05_Name.j0, if_neg (by simp)]
    exact name_l0 s hs s.size 0 k (by omega) (by omega) (by omega)
  have hn : nameOk s = false ∨ nameOk s = true := by cases nameOk s <;> simp
  unfold lagoonref05_Name.f
  have hi := nameOk_iff s
  have hz := toList_nil_iff s
  unfold special at hi
  by_cases c1 : (s.size : Int) < 1
  · rw [if_pos c1, hT]
    have : ¬ nameOk s = true := fun h => (hi.1 h).1 (.inl (hz.2 (by omega)))
    rcases hn with h | h
    · rw [h]
    · exact absurd h this
  rw [if_neg c1]
  by_cases c2 : (s.size : Int) > 24
  · rw [if_pos c2, hT]
    have : ¬ nameOk s = true := fun h => by have := (hi.1 h).2.2; omega
    rcases hn with h | h
    · rw [h]
    · exact absurd h this
  rw [if_neg c2]
  by_cases c3 : s.toList = [46]
  · rw [if_pos c3, hT]
    have : ¬ nameOk s = true := fun h => (hi.1 h).1 (.inr (.inl c3))
    rcases hn with h | h
    · rw [h]
    · exact absurd h this
  rw [if_neg c3]
  by_cases c4 : s.toList = [46, 46]
  · have c4' : (s.toList == [46, 46]) = true := beq_iff_eq.mpr c4
    rw [c4', hT]
    have : ¬ nameOk s = true := fun h => (hi.1 h).1 (.inr (.inr c4))
    rcases hn with h | h
    · rw [h]
    · exact absurd h this
  have c4' : (s.toList == [46, 46]) = false := beq_eq_false_iff_ne.mpr c4
  rw [c4', hF]
  have hns : ¬ (s.toList = [] ∨ s.toList = [46] ∨ s.toList = [46, 46]) := by
    rintro (h | h | h)
    · have := hz.1 h; omega
    · exact c3 h
    · exact c4 h
  cases hb : bad s 0 with
  | none => rw [hi.2 ⟨hns, hb, by omega⟩]; rfl
  | some j =>
    rcases hn with h | h
    · rw [h]; rfl
    · have := (hi.1 h).2.1; rw [hb] at this; cases this

/-! THE REFERENCE'S fault -/
def minFault (s : ByteArray) (frm least : Int) : Int := match nameFault s with
  | none => least
  | some j => min least (frm + j)
theorem fault_l0 (s : ByteArray) (hs : s.size ≤ 4294967296) (frm least : Int) (hf0 : 0 ≤ frm) (hf1 : frm ≤ 4294967296) : ∀ n i k, s.size - i ≤ n → i ≤ s.size → 15 + 2 * n ≤ k →
    lagoonref05_fault.l0 k s frm least (i : Nat) = some (match bad s i with | none => least | some j => min least (frm + j)) := by
  intro n
  induction n with
  | zero =>
    intro i k hi h1 hk
    obtain ⟨k, rfl⟩ : ∃ j, k = j + 1 := ⟨k - 1, by omega⟩
    rw [lagoonref05_fault.l0, if_neg (by omega), bad_out (by omega)]
  | succ n ih =>
    intro i k hi h1 hk
    obtain ⟨k, rfl⟩ : ∃ j, k = j + 1 := ⟨k - 1, by omega⟩
    by_cases h2 : i < s.size
    · have hp : lagoonref05_Point.f k s (i : Nat) = some (pt s i) := upLe (fun k => lagoonref05_Point.mono s _ k) (by omega) (point_f s i hs h2)
      have hw := wd_pos (s := s) (i := i)
      have hw2 := wd_le h2
      have hj : ∀ b, lagoonref05_fault.j5 k s frm least i (pt s i).2 b = if b = true then some (min least (frm + i)) else lagoonref05_fault.l0 (k - 1) s frm least ((i + wd s i : Nat) : Int) := fun b => by
        obtain ⟨k, rfl⟩ : ∃ j, k = j + 1 := ⟨k - 1, by omega⟩
        rw [lagoonref05_fault.j5, pt_wd, w64 (x := frm + i) (by omega) (by omega), w64 (x := (i : Int) + _) (by omega) (by omega)]
        cases b with
        | false => rfl
        | true =>
          rw [if_pos rfl, if_pos rfl]
          by_cases h : frm + i < least
          · rw [if_pos h, Int.min_eq_right (by omega)]
          · rw [if_neg h, Int.min_eq_left (by omega)]
      rw [lagoonref05_fault.l0, if_pos (by omega), hp, Option.bind_some]
      cases h3 : okAt s i with
      | true =>
        obtain ⟨h4, h5⟩ := (pt_ok s i).1 h3
        rw [if_neg h4, good_f, Option.bind_some, h5, hj, bad_no h2 h3]
        exact ih (i + wd s i) (k - 1) (by omega) hw2 (by omega)
      | false =>
        rw [bad_yes h2 h3]
        by_cases h4 : (pt s i).1 < 0
        · rw [if_pos h4, hj]; rfl
        · rw [if_neg h4, good_f, Option.bind_some, hj]
          have : goodB (pt s i).1 = false := by
            cases h5 : goodB (pt s i).1 with
            | false => rfl
            | true => have := (pt_ok s i).2 ⟨h4, h5⟩; rw [h3] at this; cases this
          rw [this]; rfl
    · rw [lagoonref05_fault.l0, if_neg (by omega), bad_out h2]
theorem fault_f (s : ByteArray) (hs : s.size ≤ 4294967296) (frm least : Int) (hf0 : 0 ≤ frm) (hf1 : frm ≤ 4294967296) (k : Nat) (hk : 2 * s.size + 30 ≤ k) :
    lagoonref05_fault.f k s frm least = some (minFault s frm least) := by
  obtain ⟨k, rfl⟩ : ∃ j, k = j + 4 := ⟨k - 4, by omega⟩
  have h3 : ∀ x, lagoonref05_fault.j3 (k + 1) s frm x = some (match bad s 0 with | none => x | some j => min x (frm + j)) := fun x => by
    rw [lagoonref05_fault.j3]
    exact fault_l0 s hs frm x hf0 hf1 s.size 0 k (by omega) (by omega) (by omega)
  have h1 : ∀ x, lagoonref05_fault.j1 (k + 3) s frm x = some (match bad s 0 with | none => (if 24 < s.size then min x (frm + 24) else x) | some j => min (if 24 < s.size then min x (frm + 24) else x) (frm + j)) := fun x => by
    rw [lagoonref05_fault.j1, w64 (x := frm + 24) (by omega) (by omega)]
    by_cases c : (s.size : Int) > 24
    · rw [if_pos c, lagoonref05_fault.j2, w64 (x := frm + 24) (by omega) (by omega), if_pos (show 24 < s.size by omega)]
      by_cases c2 : frm + 24 < x
      · rw [if_pos (decide_eq_true c2), h3, Int.min_eq_right (by omega)]
      · rw [if_neg (by simpa using c2), h3, Int.min_eq_left (by omega)]
    · rw [if_neg c, lagoonref05_fault.j2, if_neg (by simp), h3, if_neg (show ¬ 24 < s.size by omega)]
  have h0 : ∀ b, lagoonref05_fault.j0 (k + 4) s frm least b = lagoonref05_fault.j1 (k + 3) s frm (if b = true then frm else least) := fun b => by
    rw [lagoonref05_fault.j0]
    cases b <;> rfl
  have hsp : special s → lagoonref05_fault.f (k + 4) s frm least = lagoonref05_fault.j1 (k + 3) s frm (min least frm) := fun h => by
    have e : lagoonref05_fault.j0 (k + 4) s frm least (decide (frm < least)) = lagoonref05_fault.j1 (k + 3) s frm (min least frm) := by
      rw [h0]
      by_cases c : frm < least
      · rw [if_pos (decide_eq_true c), Int.min_eq_right (by omega)]
      · rw [if_neg (by simpa using c), Int.min_eq_left (by omega)]
    unfold lagoonref05_fault.f
    rcases h with h | h | h
    · rw [if_pos h, e]
    · rw [if_neg (by rw [h]; simp), if_pos h, e]
    · rw [if_neg (by rw [h]; simp), if_neg (by rw [h]; simp), if_pos h, e]
  have hns : ¬ special s → lagoonref05_fault.f (k + 4) s frm least = lagoonref05_fault.j1 (k + 3) s frm least := fun h => by
    unfold lagoonref05_fault.f
    rw [if_neg (fun x => h (.inl x)), if_neg (fun x => h (.inr (.inl x))), if_neg (fun x => h (.inr (.inr x))), h0]; rfl
  unfold minFault nameFault
  by_cases c : special s
  · rw [hsp c, h1, if_pos c]
    cases hb : bad s 0 with
    | none => simp only; congr 1; split <;> omega
    | some j => simp only; congr 1; split <;> omega
  · rw [hns c, h1, if_neg c]
    cases hb : bad s 0 with
    | none =>
      by_cases c2 : 24 < s.size
      · simp [c2]
      · simp [c2]
    | some j =>
      have := bad_lt hb
      by_cases c3 : j < 24
      · simp only [c3, if_true]; congr 1; split <;> omega
      · have c2 : 24 < s.size := by omega
        simp only [c2, c3, if_true, if_false]; congr 1; omega
end Go.Proofs.YtkhnjckkjdldbaaGreatDoor.Q
namespace Go.Proofs.YtkhnjckkjdldbaaGreatDoor.Q
open Go.RowKit Go.Proofs.YtkhnjckkjdldbaaGreatDoorW.PrintWords Go.Proofs.YtkhnjckkjdldbaaGreatDoor.Pr
set_option linter.unusedVariables false
set_option linter.unusedSimpArgs false

/-! NAMES -/
def endAt (p : ByteArray) (i : Nat) : Nat := if h : i < p.size then (if (p.get! i).toNat = 47 then i else endAt p (i + 1)) else p.size
termination_by p.size - i
theorem endAt_out {p : ByteArray} {i : Nat} (h : ¬ i < p.size) : endAt p i = p.size := by rw [endAt, dif_neg h]
theorem endAt_yes {p : ByteArray} {i : Nat} (h : i < p.size) (k : (p.get! i).toNat = 47) : endAt p i = i := by rw [endAt, dif_pos h, if_pos k]
theorem endAt_no {p : ByteArray} {i : Nat} (h : i < p.size) (k : ¬ (p.get! i).toNat = 47) : endAt p i = endAt p (i + 1) := by rw [endAt, dif_pos h, if_neg k]
/-- what endAt is -/
theorem endAt_spec (p : ByteArray) : ∀ i, i ≤ p.size → i ≤ endAt p i ∧ endAt p i ≤ p.size ∧ (∀ j, i ≤ j → j < endAt p i → (p.get! j).toNat ≠ 47) ∧ (endAt p i < p.size → (p.get! (endAt p i)).toNat = 47) := by
  suffices ∀ n i, p.size - i ≤ n → i ≤ p.size → i ≤ endAt p i ∧ endAt p i ≤ p.size ∧ (∀ j, i ≤ j → j < endAt p i → (p.get! j).toNat ≠ 47) ∧ (endAt p i < p.size → (p.get! (endAt p i)).toNat = 47) from fun i hi => this _ i (Nat.le_refl _) hi
  intro n
  induction n with
  | zero =>
    intro i hi h
    rw [endAt_out (by omega)]
    exact ⟨h, Nat.le_refl _, fun j h1 h2 => by omega, fun h => by omega⟩
  | succ n ih =>
    intro i hi h
    by_cases h1 : i < p.size
    · by_cases h2 : (p.get! i).toNat = 47
      · rw [endAt_yes h1 h2]
        exact ⟨Nat.le_refl _, h, fun j h3 h4 => by omega, fun _ => h2⟩
      · rw [endAt_no h1 h2]
        obtain ⟨a, b, c, d⟩ := ih (i + 1) (by omega) (by omega)
        refine ⟨by omega, b, fun j h3 h4 => ?_, d⟩
        by_cases e : j = i
        · subst e; exact h2
        · exact c j (by omega) h4
    · rw [endAt_out h1]
      exact ⟨h, Nat.le_refl _, fun j h1 h2 => by omega, fun h => by omega⟩
theorem endAt_is {p : ByteArray} {i e : Nat} (h : i ≤ e) (he : e ≤ p.size) (h1 : ∀ j, i ≤ j → j < e → (p.get! j).toNat ≠ 47) (h2 : e < p.size → (p.get! e).toNat = 47) : endAt p i = e := by
  obtain ⟨a, b, c, d⟩ := endAt_spec p i (by omega)
  by_cases h3 : endAt p i < e
  · exact absurd (d (by omega)) (h1 _ a h3)
  · by_cases h4 : e < endAt p i
    · exact absurd (h2 (by omega)) (c e h h4)
    · omega
def segs (p : ByteArray) (i : Nat) : List ByteArray := if h : i ≤ p.size then p.extract i (endAt p i) :: segs p (endAt p i + 1) else []
termination_by p.size + 1 - i
decreasing_by have := (endAt_spec p i h).1; omega
theorem segs_in {p : ByteArray} {i : Nat} (h : i ≤ p.size) : segs p i = p.extract i (endAt p i) :: segs p (endAt p i + 1) := by rw [segs, dif_pos h]
theorem segs_out {p : ByteArray} {i : Nat} (h : ¬ i ≤ p.size) : segs p i = [] := by rw [segs, dif_neg h]
def names (p : ByteArray) : List ByteArray := if p.toList = [47] then [] else segs p 1
theorem end_f (p : ByteArray) (hs : p.size ≤ 4294967296) : ∀ n i k, p.size - i ≤ n → 1 + n ≤ k → lagoonref05_end.f k p (i : Nat) = some ((endAt p i : Nat) : Int) := by
  unfold lagoonref05_end.f
  intro n
  induction n with
  | zero =>
    intro i k hi hk
    obtain ⟨k, rfl⟩ : ∃ j, k = j + 1 := ⟨k - 1, by omega⟩
    rw [lagoonref05_end.l0, if_neg (by omega), endAt_out (by omega)]
  | succ n ih =>
    intro i k hi hk
    obtain ⟨k, rfl⟩ : ∃ j, k = j + 1 := ⟨k - 1, by omega⟩
    by_cases h : i < p.size
    · rw [lagoonref05_end.l0, if_pos (by omega), if_pos (by omega), bt_get p i h]
      by_cases h2 : (p.get! i).toNat = 47
      · rw [if_pos (by omega), endAt_yes h h2]
      · rw [if_neg (by omega), endAt_no h h2, w64 (by omega) (by omega)]
        exact ih (i + 1) k (by omega) (by omega)
    · rw [lagoonref05_end.l0, if_neg (by omega), endAt_out h]
theorem segs_len (p : ByteArray) : ∀ n i, p.size + 1 - i ≤ n → (segs p i).length ≤ n := by
  intro n
  induction n with
  | zero => intro i hi; rw [segs_out (by omega)]; simp
  | succ n ih =>
    intro i hi
    by_cases h : i ≤ p.size
    · rw [segs_in h]
      have := (endAt_spec p i h).1
      have := ih (endAt p i + 1) (by omega)
      simp; omega
    · rw [segs_out h]; simp
theorem names_l0 (p : ByteArray) (hs : p.size ≤ 4294967296) : ∀ n i k acc, p.size + 1 - i ≤ n → 2 + p.size + n ≤ k → acc.length ≤ i → lagoonref05_Names.l0 k p acc (i : Nat) = some (acc ++ segs p i) := by
  intro n
  induction n with
  | zero =>
    intro i k acc hi hk ha
    obtain ⟨k, rfl⟩ : ∃ j, k = j + 1 := ⟨k - 1, by omega⟩
    rw [lagoonref05_Names.l0, if_neg (by omega), segs_out (by omega)]; simp
  | succ n ih =>
    intro i k acc hi hk ha
    obtain ⟨k, rfl⟩ : ∃ j, k = j + 1 := ⟨k - 1, by omega⟩
    by_cases h : i ≤ p.size
    · obtain ⟨a, b, c, d⟩ := endAt_spec p i h
      rw [lagoonref05_Names.l0, if_pos (by omega), end_f p hs (p.size - i) i k (by omega) (by omega), Option.bind_some, if_pos (by omega), if_pos (by omega), if_pos (by omega), if_pos (by omega), w64 (by omega) (by omega), segs_in h]
      have := ih (endAt p i + 1) k (acc ++ [p.extract i (endAt p i)]) (by omega) (by omega) (by simp; omega)
      rw [List.append_assoc] at this
      exact this
    · rw [lagoonref05_Names.l0, if_neg (by omega), segs_out h]; simp
theorem names_f (p : ByteArray) (hs : p.size ≤ 4294967296) (k : Nat) (hk : 2 * p.size + 10 ≤ k) : lagoonref05_Names.f k p = some (names p) := by
  unfold lagoonref05_Names.f names
  by_cases h : p.toList = [47]
  · rw [if_pos h, if_pos h]
  · rw [if_neg h, if_neg h]
    exact names_l0 p hs p.size 1 k [] (by omega) (by omega) (by simp)
theorem segs_size (p : ByteArray) : ∀ n i, p.size + 1 - i ≤ n → ∀ x ∈ segs p i, x.size ≤ p.size := by
  intro n
  induction n with
  | zero => intro i hi x hx; rw [segs_out (by omega)] at hx; simp at hx
  | succ n ih =>
    intro i hi x hx
    by_cases h : i ≤ p.size
    · rw [segs_in h] at hx
      have := endAt_spec p i h
      rcases List.mem_cons.1 hx with rfl | hx
      · rw [ByteArray.size_extract]; omega
      · exact ih (endAt p i + 1) (by omega) x hx
    · rw [segs_out h] at hx; simp at hx
theorem names_size (p : ByteArray) : ∀ x ∈ names p, x.size ≤ p.size := by
  intro x hx
  unfold names at hx
  split at hx
  · simp at hx
  · exact segs_size p _ 1 (Nat.le_refl _) x hx
theorem names_len (p : ByteArray) : (names p).length ≤ p.size := by
  unfold names
  split
  · simp
  · exact segs_len p _ 1 (by omega)

/-! IS -/
/-- does it begin with a slash? -/
def slash (p : ByteArray) : Prop := 0 < p.size ∧ (p.get! 0).toNat = 47
instance (p : ByteArray) : Decidable (slash p) := by unfold slash; infer_instance
def isP (p : ByteArray) : Bool := decide (p.size ≤ 64) && decide (slash p) && (names p).all nameOk
theorem rdOf_nat {α : Type} (d : α) (l : List α) (i : Nat) : rdOf d l (i : Int) = l.getD i d := by simp [rdOf]
theorem is_l0 (l : List ByteArray) (B : Nat) (hB : B ≤ 4294967296) (hl : ∀ x ∈ l, x.size ≤ B) (hlen : l.length ≤ B) : ∀ n i k, l.length - i ≤ n → i ≤ l.length → 25 + B + n ≤ k → lagoonref05_Is.l0 k l (i : Nat) = some ((l.drop i).all nameOk) := by
  intro n
  induction n with
  | zero =>
    intro i k hi h1 hk
    obtain ⟨k, rfl⟩ : ∃ j, k = j + 1 := ⟨k - 1, by omega⟩
    rw [lagoonref05_Is.l0, if_neg (by omega), List.drop_of_length_le (by omega)]; rfl
  | succ n ih =>
    intro i k hi h1 hk
    obtain ⟨k, rfl⟩ : ∃ j, k = j + 1 := ⟨k - 1, by omega⟩
    by_cases h : i < l.length
    · have hx : l.getD i ByteArray.empty = l[i] := by simp [List.getD_eq_getElem?_getD, h]
      have hsz := hl l[i] (List.getElem_mem h)
      rw [lagoonref05_Is.l0, if_pos (by omega), if_pos (by omega), rdOf_nat, hx, name_f _ (by omega) k (by omega), Option.bind_some, List.drop_eq_getElem_cons h, List.all_cons]
      cases hn : nameOk l[i] with
      | true =>
        rw [if_pos rfl, w64 (by omega) (by omega), Bool.true_and]
        exact ih (i + 1) k (by omega) (by omega) (by omega)
      | false => rfl
    · rw [lagoonref05_Is.l0, if_neg (by omega), List.drop_of_length_le (by omega)]; rfl
theorem is_f (p : ByteArray) (hs : p.size ≤ 4294967296) (k : Nat) (hk : 3 * p.size + 40 ≤ k) : lagoonref05_Is.f k p = some (isP p) := by
  obtain ⟨k, rfl⟩ : ∃ j, k = j + 1 := ⟨k - 1, by omega⟩
  have hT : lagoonref05_Is.j0 (k + 1) p true = some false := by rw [lagoonref05_Is.j0, if_pos rfl]
  have hF : lagoonref05_Is.j0 (k + 1) p false = some ((names p).all nameOk) := by
    rw [lagoonref05_Is.j0, if_neg (by simp), names_f p hs k (by omega), Option.bind_some]
    exact is_l0 (names p) p.size hs (names_size p) (names_len p) p.size 0 k (by have := names_len p; omega) (by omega) (by omega)
  unfold lagoonref05_Is.f isP slash
  by_cases c1 : (p.size : Int) < 1
  · rw [if_pos c1, hT]
    have : ¬ 0 < p.size := by omega
    simp [this]
  rw [if_neg c1]
  by_cases c2 : (p.size : Int) > 64
  · rw [if_pos c2, hT]
    have : ¬ p.size ≤ 64 := by omega
    simp [this]
  rw [if_neg c2, if_pos (by omega)]
  have hb : bt p 0 = ((p.get! 0).toNat : Int) := bt_get p 0 (by omega)
  rw [hb]
  by_cases c3 : (p.get! 0).toNat = 47
  · have : (((p.get! 0).toNat : Int) != 47) = false := by rw [c3]; rfl
    rw [this, hF]
    have h1 : p.size ≤ 64 := by omega
    have h2 : 0 < p.size := by omega
    simp [c3, h1, h2]
  · have : (((p.get! 0).toNat : Int) != 47) = true := by rw [bne_iff_ne]; omega
    rw [this, hT]
    simp [c3]

/-! CHECK -/
/-- the place of the first fault among names that begin at a place -/
def ff : Nat → List ByteArray → Option Nat
  | _, [] => none
  | a, x :: l => match nameFault x with
    | some j => some (a + j)
    | none => ff (a + x.size + 1) l
/-- all names' faults against a least -/
def fold : Int → Int → List ByteArray → Int
  | _, least, [] => least
  | a, least, x :: l => fold (a + x.size + 1) (minFault x a least) l
theorem fold_big (l : List ByteArray) : ∀ (a least : Int), least ≤ a → fold a least l = least := by
  induction l with
  | nil => intro a least _; rfl
  | cons x l ih =>
    intro a least h
    have : minFault x a least = least := by
      unfold minFault
      split
      · rfl
      · rw [Int.min_eq_left (by omega)]
    rw [fold, this]
    exact ih _ _ (by omega)
theorem fold_ff (l : List ByteArray) : ∀ (a : Nat) (least : Int), fold a least l = match ff a l with | none => least | some j => min least (j : Int) := by
  induction l with
  | nil => intro a least; rfl
  | cons x l ih =>
    intro a least
    rw [fold, ff]
    cases h : nameFault x with
    | none =>
      have e : minFault x a least = least := by unfold minFault; rw [h]
      rw [e]
      exact ih (a + x.size + 1) least
    | some j =>
      have e : minFault x a least = min least ((a + j : Nat) : Int) := by unfold minFault; rw [h]; simp
      rw [e]
      exact fold_big l _ _ (by have := (nameFault_le h).1; omega)
theorem ff_none (l : List ByteArray) : ∀ a, ff a l = none ↔ l.all nameOk = true := by
  induction l with
  | nil => intro a; simp [ff]
  | cons x l ih =>
    intro a
    rw [ff, List.all_cons, Bool.and_eq_true]
    unfold nameOk at ih ⊢
    cases h : nameFault x with
    | none => simp only [Option.isNone_none, true_and]; exact ih _
    | some j => simp
theorem ff_le (p : ByteArray) : ∀ n i, p.size + 1 - i ≤ n → ∀ j, ff i (segs p i) = some j → j ≤ p.size := by
  intro n
  induction n with
  | zero => intro i hi j hj; rw [segs_out (by omega)] at hj; simp [ff] at hj
  | succ n ih =>
    intro i hi j hj
    by_cases h : i ≤ p.size
    · obtain ⟨a, b, c, d⟩ := endAt_spec p i h
      have hz : (p.extract i (endAt p i)).size = endAt p i - i := by rw [ByteArray.size_extract]; omega
      rw [segs_in h, ff] at hj
      cases h1 : nameFault (p.extract i (endAt p i)) with
      | none =>
        rw [h1] at hj
        simp only at hj
        rw [hz, show i + (endAt p i - i) + 1 = endAt p i + 1 by omega] at hj
        exact ih _ (by omega) j hj
      | some m =>
        rw [h1] at hj
        have := nameFault_le h1
        simp only [Option.some.injEq] at hj
        omega
    · rw [segs_out h] at hj; simp [ff] at hj
/-- what Check says -/
def checkP (p : ByteArray) : Nat × Nat :=
  if ¬ slash p then (0, 50) else if p.toList = [47] then (0, 0) else
  match ff 1 (segs p 1) with
  | some j => (min j 64, 50)
  | none => if 64 < p.size then (64, 50) else (0, 0)
theorem checkP_is (p : ByteArray) : isP p = true ↔ (checkP p).2 = 0 := by
  unfold isP checkP
  by_cases h : slash p
  · rw [if_neg (fun x => x h)]
    unfold names
    by_cases h1 : p.toList = [47]
    · rw [if_pos h1, if_pos h1]
      have : p.size = 1 := by
        rw [Lib.toList_data] at h1
        rw [Lib.size_eq, h1]; rfl
      simp [h, this]
    · rw [if_neg h1, if_neg h1]
      have hf := ff_none (segs p 1) 1
      cases h2 : ff 1 (segs p 1) with
      | some j =>
        have : ¬ (segs p 1).all nameOk = true := fun x => by have := hf.2 x; rw [h2] at this; cases this
        have : (segs p 1).all nameOk = false := by simpa using this
        simp only [this, Bool.and_false]; simp
      | none =>
        have := hf.1 h2
        by_cases h3 : 64 < p.size
        · simp [h3, this, h]
        · simp [h3, this, h]
          try omega
  · rw [if_pos h]; simp [h]
theorem checkP_ok (p : ByteArray) (h : isP p = true) : checkP p = (0, 0) := by
  have := (checkP_is p).1 h
  unfold checkP at this ⊢
  by_cases h1 : slash p
  · rw [if_neg (fun x => x h1)] at this ⊢
    by_cases h2 : p.toList = [47]
    · rw [if_pos h2]
    · rw [if_neg h2] at this ⊢
      cases h3 : ff 1 (segs p 1) with
      | some j => rw [h3] at this; simp at this
      | none =>
        rw [h3] at this
        by_cases h4 : 64 < p.size
        · simp [h4] at this
        · simp [h4]
  · rw [if_pos h1] at this; simp at this
theorem checkP_no (p : ByteArray) (h : isP p = false) : (checkP p).2 = 50 := by
  have h1 : ¬ (checkP p).2 = 0 := fun x => by have := (checkP_is p).2 x; rw [h] at this; cases this
  unfold checkP at h1 ⊢
  split
  · rfl
  · rename_i h2; rw [if_neg h2] at h1
    split
    · rename_i h3; rw [if_pos h3] at h1; simp at h1
    · rename_i h3; rw [if_neg h3] at h1
      split
      · rfl
      · rename_i h4
        rw [h4] at h1
        by_cases h5 : 64 < p.size
        · simp [h5]
        · simp [h5] at h1
def sums (l : List ByteArray) : Nat := (l.map (fun x => x.size + 1)).sum
theorem sums_cons (x : ByteArray) (l : List ByteArray) : sums (x :: l) = x.size + 1 + sums l := by simp [sums]
theorem check_l0 (l : List ByteArray) (B : Nat) (hB : B ≤ 2147483648) (hl : ∀ x ∈ l, x.size ≤ B) (hlen : l.length ≤ B) : ∀ n i k (a least : Int), l.length - i ≤ n → i ≤ l.length → 40 + 2 * B + n ≤ k → 0 ≤ a → a + (sums (l.drop i) : Nat) ≤ 4294967296 →
    lagoonref05_Check.l0 k least l a (i : Nat) = some (fold a least (l.drop i), 50) := by
  intro n
  induction n with
  | zero =>
    intro i k a least hi h1 hk _ _
    obtain ⟨k, rfl⟩ : ∃ j, k = j + 1 := ⟨k - 1, by omega⟩
    rw [lagoonref05_Check.l0, if_neg (by omega), List.drop_of_length_le (by omega)]; rfl
  | succ n ih =>
    intro i k a least hi h1 hk ha hsum
    obtain ⟨k, rfl⟩ : ∃ j, k = j + 1 := ⟨k - 1, by omega⟩
    by_cases h : i < l.length
    · have hx : l.getD i ByteArray.empty = l[i] := by simp [List.getD_eq_getElem?_getD, h]
      have hsz := hl l[i] (List.getElem_mem h)
      rw [List.drop_eq_getElem_cons h, sums_cons] at hsum
      rw [lagoonref05_Check.l0, if_pos (by omega), if_pos (by omega), rdOf_nat, hx, fault_f _ (by omega) a least ha (by omega) k (by omega), Option.bind_some, List.drop_eq_getElem_cons h, fold]
      rw [w64 (x := a + _) (by omega) (by omega), w64 (x := a + _ + 1) (by omega) (by omega), w64 (by omega) (by omega)]
      exact ih (i + 1) k (a + l[i].size + 1) _ (by omega) (by omega) (by omega) (by omega) (by omega)
    · rw [lagoonref05_Check.l0, if_neg (by omega), List.drop_of_length_le (by omega)]; rfl
theorem segs_sum (p : ByteArray) : ∀ n i, p.size + 1 - i ≤ n → sums (segs p i) ≤ p.size + 1 - i := by
  intro n
  induction n with
  | zero => intro i hi; rw [segs_out (by omega)]; simp [sums]
  | succ n ih =>
    intro i hi
    by_cases h : i ≤ p.size
    · obtain ⟨a, b, c, d⟩ := endAt_spec p i h
      have hz : (p.extract i (endAt p i)).size = endAt p i - i := by rw [ByteArray.size_extract]; omega
      rw [segs_in h, sums_cons, hz]
      have := ih (endAt p i + 1) (by omega)
      omega
    · rw [segs_out h]; simp [sums]
theorem refCheck_f (p : ByteArray) (hs : p.size ≤ 2147483648) (k : Nat) (hk : 4 * p.size + 60 ≤ k) : lagoonref05_Check.f k p = some (((checkP p).1 : Int), ((checkP p).2 : Int)) := by
  obtain ⟨k, rfl⟩ : ∃ j, k = j + 2 := ⟨k - 2, by omega⟩
  unfold lagoonref05_Check.f
  rw [is_f p (by omega) _ (by omega), Option.bind_some]
  cases hi : isP p with
  | true => rw [if_pos rfl, checkP_ok p hi]; rfl
  | false =>
    rw [if_neg (by simp)]
    have hT : lagoonref05_Check.j0 (k + 2) p true = some (0, 50) := by rw [lagoonref05_Check.j0, if_pos rfl]
    by_cases c1 : p.toList = []
    · rw [if_pos c1, hT]
      have : ¬ slash p := fun h => by have := (toList_nil_iff p).1 c1; have := h.1; omega
      unfold checkP; rw [if_pos this]; rfl
    rw [if_neg c1]
    have hp : 0 < p.size := by
      rcases Nat.eq_zero_or_pos p.size with h | h
      · exact absurd ((toList_nil_iff p).2 h) c1
      · exact h
    rw [if_pos (by omega)]
    have hb : bt p 0 = ((p.get! 0).toNat : Int) := bt_get p 0 (by omega)
    rw [hb]
    by_cases c3 : (p.get! 0).toNat = 47
    · have e : (((p.get! 0).toNat : Int) != 47) = false := by rw [c3]; rfl
      rw [e]
      have hsl : slash p := ⟨hp, c3⟩
      have hn : ¬ p.toList = [47] := fun h => by
        have : checkP p = (0, 0) := by unfold checkP; rw [if_neg (fun x => x hsl), if_pos h]
        have := (checkP_is p).2 (by rw [this])
        rw [hi] at this; cases this
      have hj : ∀ x : Int, lagoonref05_Check.j1 (k + 1) p x = some (fold 1 x (segs p 1), 50) := fun x => by
        rw [lagoonref05_Check.j1, names_f p (by omega) k (by omega), Option.bind_some]
        have hnm : names p = segs p 1 := by unfold names; rw [if_neg hn]
        have h9 := check_l0 (names p) p.size hs (names_size p) (names_len p) p.size 0 k 1 x (by have := names_len p; omega) (by omega) (by omega) (by omega) (by
          rw [List.drop_zero, hnm]
          have := segs_sum p _ 1 (Nat.le_refl _)
          omega)
        rw [List.drop_zero, hnm] at h9
        rw [hnm]; exact h9
      rw [lagoonref05_Check.j0, if_neg (by simp), w64 (by omega) (by omega)]
      have hfold : ∀ x : Int, fold 1 x (segs p 1) = match ff 1 (segs p 1) with | none => x | some j => min x (j : Int) := fun x => fold_ff (segs p 1) 1 x
      have hle := ff_le p _ 1 (Nat.le_refl _)
      have hck : checkP p = match ff 1 (segs p 1) with | some j => (min j 64, 50) | none => if 64 < p.size then (64, 50) else (0, 0) := by
        unfold checkP; rw [if_neg (fun x : ¬ slash p => x hsl), if_neg hn]
      rw [hck]
      have hff := ff_none (segs p 1) 1
      by_cases c4 : (p.size : Int) > 64
      · rw [if_pos c4, hj, hfold]
        cases h5 : ff 1 (segs p 1) with
        | none => simp only; rw [if_pos (by omega)]; rfl
        | some j =>
          simp only
          congr 2
          omega
      · rw [if_neg c4, hj, hfold]
        cases h5 : ff 1 (segs p 1) with
        | none =>
          exfalso
          have : checkP p = (0, 0) := by
            unfold checkP
            rw [if_neg (fun x => x hsl), if_neg hn, h5]
            simp only
            rw [if_neg (by omega)]
          have := (checkP_is p).2 (by rw [this])
          rw [hi] at this; cases this
        | some j =>
          have := hle j h5
          simp only
          congr 2
          omega
    · have e : (((p.get! 0).toNat : Int) != 47) = true := by rw [bne_iff_ne]; omega
      rw [e, hT]
      unfold checkP
      rw [if_pos (fun h : slash p => c3 h.2)]; rfl
end Go.Proofs.YtkhnjckkjdldbaaGreatDoor.Q
