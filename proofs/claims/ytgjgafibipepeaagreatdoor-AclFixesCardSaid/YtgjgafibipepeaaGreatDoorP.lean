import Derived.Lib.AtoiAll
import Derived.Lib.ItoaMem
import Derived.Lib.Split
import Derived.Lib.SplitLaws
import Derived.Lib.IndexMore
import Derived.Lib.IndexBytes
import Derived.Lib.DecodeN
import Derived.Lib.Strings
namespace Go.Proofs.YtgjgafibipepeaaGreatDoor.Q
open Go.Lib
set_option linter.unusedVariables false
set_option linter.unusedSimpArgs false

/-! NUMBERS AS TEXTS -/
theorem dec_three {i : Nat} (h1 : ¬ i < 100) (h2 : i < 1000) : decDigits i = [UInt8.ofNat (48 + i / 100), UInt8.ofNat (48 + i / 10 % 10), UInt8.ofNat (48 + i % 10)] := by
  rw [decDigits, dif_neg (by omega), decDigits_two (by omega) (by omega)]
  simp only [List.cons_append, List.nil_append]
  rw [show i / 10 / 10 = i / 100 by omega]
/-- what digits are worth -/
def val (l : List UInt8) : Nat := l.foldl (fun a b => a * 10 + (b.toNat - 48)) 0
theorem val_append (l : List UInt8) (b : UInt8) : val (l ++ [b]) = val l * 10 + (b.toNat - 48) := by simp [val]
theorem ofNat_toNat {n : Nat} (h : n < 256) : (UInt8.ofNat n).toNat = n := by simp [UInt8.toNat_ofNat']; omega
theorem val_dec (k : Nat) : val (decDigits k) = k := by
  induction k using Nat.strongRecOn with
  | ind k ih =>
    rw [decDigits]
    split
    · rename_i h
      show 0 * 10 + ((UInt8.ofNat (48 + k)).toNat - 48) = k
      rw [ofNat_toNat (by omega)]
      omega
    · rename_i h
      rw [val_append, ih _ (by omega), ofNat_toNat (by omega)]
      omega
def isDig (b : UInt8) : Bool := decide (48 ≤ b.toNat ∧ b.toNat ≤ 57)
theorem dig_ofNat {d : Nat} (h : d < 10) : isDig (UInt8.ofNat (48 + d)) = true := by
  unfold isDig; rw [ofNat_toNat (by omega)]; simp; omega
theorem dec_digits (k : Nat) : ∀ b ∈ decDigits k, isDig b = true := by
  induction k using Nat.strongRecOn with
  | ind k ih =>
    rw [decDigits]
    split
    · intro b hb; rw [List.mem_singleton.1 hb]; exact dig_ofNat (by omega)
    · intro b hb
      rcases List.mem_append.1 hb with hb | hb
      · exact ih _ (by omega) b hb
      · rw [List.mem_singleton.1 hb]; exact dig_ofNat (by omega)
theorem dec_ne (k : Nat) : decDigits k ≠ [] := by
  rw [decDigits]; split <;> simp
/-- a number of at most so much, as it is written -/
def numB (most : Nat) (l : List UInt8) : Option Nat := if l = decDigits (val l) ∧ val l ≤ most then some (val l) else none
theorem numB_some {most : Nat} {l : List UInt8} {k : Nat} : numB most l = some k ↔ l = decDigits k ∧ k ≤ most := by
  unfold numB
  constructor
  · intro h
    split at h
    · rename_i hh; cases h; exact hh
    · cases h
  · rintro ⟨rfl, h⟩
    rw [val_dec, if_pos ⟨rfl, h⟩]
theorem parse_dec (k : Nat) (hk : k < 1000) : parseUint10 0 (decDigits k) = .ok k := by
  by_cases h1 : k < 10
  · rw [decDigits_one h1]
    unfold parseUint10
    rw [ofNat_toNat (by omega), if_pos (by omega), if_neg (by omega), if_neg (by omega)]
    simp [parseUint10]
  · by_cases h2 : k < 100
    · rw [decDigits_two h1 h2]
      simp only [parseUint10]
      rw [ofNat_toNat (by omega), ofNat_toNat (by omega), if_pos (by omega), if_neg (by omega), if_neg (by omega), if_pos (by omega), if_neg (by omega), if_neg (by omega)]
      congr 1; omega
    · rw [dec_three h2 hk]
      simp only [parseUint10]
      rw [ofNat_toNat (by omega), ofNat_toNat (by omega), ofNat_toNat (by omega), if_pos (by omega), if_neg (by omega), if_neg (by omega), if_pos (by omega), if_neg (by omega), if_neg (by omega), if_pos (by omega), if_neg (by omega), if_neg (by omega)]
      congr 1; omega
theorem atoi_dec (k : Nat) (hk : k < 1000) : atoiAll (decDigits k) = .ok (k : Int) := by
  have hp := parse_dec k hk
  have hne := dec_ne k
  have hd := dec_digits k
  match hl : decDigits k with
  | [] => exact absurd hl hne
  | c :: r =>
    rw [hl] at hp hd
    have hc := hd c List.mem_cons_self
    unfold isDig at hc
    simp only [decide_eq_true_eq] at hc
    unfold atoiAll
    simp only
    rw [if_neg (by omega)]
    unfold parseMag
    rw [if_neg (by simp), hp]
    simp only
    rw [if_neg (by omega), if_neg (by omega), if_neg (by omega)]
/-- number, of acl: what Atoi reads, if Itoa writes it so -/
theorem numB_of_ok {l : List UInt8} {v : Int} {most : Nat} (h : atoiAll l = .ok v) (h0 : 0 ≤ v) (h1 : v ≤ most) (hi : itoa v = l) : numB most l = some v.toNat := by
  obtain ⟨n, rfl⟩ := Int.eq_ofNat_of_zero_le h0
  rw [itoa_nonneg] at hi
  rw [numB_some]
  exact ⟨by simpa using hi.symm, by simpa using h1⟩
theorem numB_ok {l : List UInt8} {k most : Nat} (hm : most < 1000) (h : numB most l = some k) : atoiAll l = .ok (k : Int) ∧ itoa (k : Int) = l ∧ k ≤ most := by
  rw [numB_some] at h
  obtain ⟨rfl, hk⟩ := h
  exact ⟨atoi_dec k (by omega), itoa_nonneg k, hk⟩
end Go.Proofs.YtgjgafibipepeaaGreatDoor.Q
namespace Go.Proofs.YtgjgafibipepeaaGreatDoor.Q
open Go.Lib
set_option linter.unusedVariables false
set_option linter.unusedSimpArgs false

/-! ADDRESSES AND RANGES, AS TEXTS -/
theorem dig_range {b : UInt8} : isDig b = true ↔ 48 ≤ b.toNat ∧ b.toNat ≤ 57 := by unfold isDig; simp
/-- a number at the beginning: what it is, what is left -/
def scanN (l : List UInt8) : Option (Nat × List UInt8) :=
  let d := (l.take 4).takeWhile isDig
  if d = [] ∨ 255 < val d ∨ (1 < d.length ∧ d.head? = some 48) then none else some (val d, l.drop d.length)
def noDig (r : List UInt8) : Prop := ∀ b, r.head? = some b → isDig b = false
theorem takeWhile_dec {d r : List UInt8} (hd : ∀ b ∈ d, isDig b = true) (hr : noDig r) (hl : d.length ≤ 3) : ((d ++ r).take 4).takeWhile isDig = d := by
  rw [List.take_append, List.take_of_length_le (by omega), List.takeWhile_append_of_pos hd]
  match r with
  | [] => simp
  | b :: r =>
    have hb := hr b rfl
    obtain ⟨m, hm⟩ : ∃ m, 4 - d.length = m + 1 := ⟨3 - d.length, by omega⟩
    rw [hm, List.take_succ_cons, List.takeWhile_cons, hb]
    simp
theorem dec_len {k : Nat} (hk : k ≤ 255) : (decDigits k).length ≤ 3 := by
  by_cases h1 : k < 10
  · rw [decDigits_one h1]; simp
  · by_cases h2 : k < 100
    · rw [decDigits_two h1 h2]; simp
    · rw [dec_three h2 (by omega)]; simp
theorem dec_lead {k : Nat} (hk : k ≤ 255) : ¬ (1 < (decDigits k).length ∧ (decDigits k).head? = some 48) := by
  have e48 : (48 : UInt8).toNat = 48 := rfl
  by_cases h1 : k < 10
  · rw [decDigits_one h1]; simp
  · by_cases h2 : k < 100
    · rw [decDigits_two h1 h2]
      rintro ⟨_, h⟩
      have h := congrArg UInt8.toNat (Option.some.inj h)
      rw [ofNat_toNat (by omega), e48] at h
      omega
    · rw [dec_three h2 (by omega)]
      rintro ⟨_, h⟩
      have h := congrArg UInt8.toNat (Option.some.inj h)
      rw [ofNat_toNat (by omega), e48] at h
      omega
theorem scanN_dec {k : Nat} {r : List UInt8} (hk : k ≤ 255) (hr : noDig r) : scanN (decDigits k ++ r) = some (k, r) := by
  unfold scanN
  simp only
  rw [takeWhile_dec (dec_digits k) hr (dec_len hk), val_dec, if_neg]
  · simp
  · rintro (h | h | h)
    · exact dec_ne k h
    · omega
    · exact dec_lead hk h
theorem val_one (a : UInt8) : val [a] = a.toNat - 48 := by simp [val]
theorem val_two (a b : UInt8) : val [a, b] = (a.toNat - 48) * 10 + (b.toNat - 48) := by simp [val]
theorem val_three (a b c : UInt8) : val [a, b, c] = ((a.toNat - 48) * 10 + (b.toNat - 48)) * 10 + (c.toNat - 48) := by simp [val]
theorem val_four (a b c d : UInt8) : val [a, b, c, d] = (((a.toNat - 48) * 10 + (b.toNat - 48)) * 10 + (c.toNat - 48)) * 10 + (d.toNat - 48) := by simp [val]
theorem toNat_inj {a : UInt8} {n : Nat} (h : a.toNat = n) (hn : n < 256) : a = UInt8.ofNat n := by
  apply UInt8.toNat_inj.1; rw [ofNat_toNat hn]; exact h
/-- digits without a needless 0 are how their number is written -/
theorem dec_val {d : List UInt8} (hd : ∀ b ∈ d, isDig b = true) (h0 : d ≠ []) (h1 : val d ≤ 255) (h2 : ¬ (1 < d.length ∧ d.head? = some 48)) (h3 : d.length ≤ 4) : d = decDigits (val d) := by
  match d, h0, h3 with
  | [a], _, _ =>
    have ha := dig_range.1 (hd a (by simp))
    rw [val_one, decDigits_one (by omega)]
    congr 1
    exact toNat_inj (by omega) (by omega)
  | [a, b], _, _ =>
    have ha := dig_range.1 (hd a (by simp))
    have hb := dig_range.1 (hd b (by simp))
    have hz : a.toNat ≠ 48 := fun e => h2 ⟨by simp, by simp [toNat_inj e (by omega)]⟩
    rw [val_two, decDigits_two (by omega) (by omega)]
    congr 1
    · exact toNat_inj (by omega) (by omega)
    · congr 1; exact toNat_inj (by omega) (by omega)
  | [a, b, c], _, _ =>
    have ha := dig_range.1 (hd a (by simp))
    have hb := dig_range.1 (hd b (by simp))
    have hc := dig_range.1 (hd c (by simp))
    have hz : a.toNat ≠ 48 := fun e => h2 ⟨by simp, by simp [toNat_inj e (by omega)]⟩
    rw [val_three] at h1 ⊢
    rw [dec_three (by omega) (by omega)]
    congr 1
    · exact toNat_inj (by omega) (by omega)
    · congr 1
      · exact toNat_inj (by omega) (by omega)
      · congr 1; exact toNat_inj (by omega) (by omega)
  | [a, b, c, e], _, _ =>
    have ha := dig_range.1 (hd a (by simp))
    have hb := dig_range.1 (hd b (by simp))
    have hc := dig_range.1 (hd c (by simp))
    have hz : a.toNat ≠ 48 := fun e => h2 ⟨by simp, by simp [toNat_inj e (by omega)]⟩
    rw [val_four] at h1
    omega
theorem scanN_some {l r : List UInt8} {k : Nat} (h : scanN l = some (k, r)) : l = decDigits k ++ r ∧ k ≤ 255 ∧ noDig r := by
  unfold scanN at h
  simp only at h
  split at h
  · cases h
  rename_i hc
  rw [not_or, not_or] at hc
  obtain ⟨c1, c2, c3⟩ := hc
  obtain ⟨d, hd⟩ : ∃ d, (l.take 4).takeWhile isDig = d := ⟨_, rfl⟩
  rw [hd] at h c1 c2 c3
  simp only [Option.some.injEq, Prod.mk.injEq] at h
  obtain ⟨hk, hr⟩ := h
  have hall : ∀ b ∈ d, isDig b = true := by rw [← hd]; exact fun b hb => List.all_eq_true.1 List.all_takeWhile b hb
  have hpre : d <+: l := by rw [← hd]; exact (List.takeWhile_prefix _).trans (List.take_prefix _ _)
  have hlen : d.length ≤ 4 := by
    have := (List.takeWhile_prefix (p := isDig) (l := l.take 4)).length_le
    rw [hd] at this
    have := List.length_take_le 4 l
    omega
  have hdv := dec_val hall c1 (by omega) c3 hlen
  have hl : l = d ++ r := by rw [← hr]; exact (List.prefix_iff_eq_append.1 hpre).symm
  have hle : d.length ≤ 3 := by rw [hdv]; exact dec_len (by omega)
  refine ⟨by rw [hl, ← hk, ← hdv], by omega, fun b hb => ?_⟩
  cases hbd : isDig b with
  | false => rfl
  | true =>
    obtain ⟨r', rfl⟩ : ∃ r', r = b :: r' := by
      match r, hb with
      | x :: r', hb => exact ⟨r', by simp at hb; rw [hb]⟩
    obtain ⟨m, hm⟩ : ∃ m, 4 - d.length = m + 1 := ⟨3 - d.length, by omega⟩
    have := hd
    rw [hl, List.take_append, List.take_of_length_le (by omega), List.takeWhile_append_of_pos hall, hm, List.take_succ_cons, List.takeWhile_cons, hbd] at this
    simp at this
abbrev Quad := Nat × Nat × Nat × Nat
/-- a dot, and a number behind it -/
def scanD : List UInt8 → Option (Nat × List UInt8)
  | 46 :: r => scanN r
  | _ => none
/-- an address at the beginning -/
def scanA (l : List UInt8) : Option (Quad × List UInt8) :=
  (scanN l).bind fun x => (scanD x.2).bind fun y => (scanD y.2).bind fun z => (scanD z.2).bind fun w => some ((x.1, y.1, z.1, w.1), w.2)
def quadT (q : Quad) : List UInt8 := decDigits q.1 ++ 46 :: (decDigits q.2.1 ++ 46 :: (decDigits q.2.2.1 ++ 46 :: decDigits q.2.2.2))
def small (q : Quad) : Prop := q.1 ≤ 255 ∧ q.2.1 ≤ 255 ∧ q.2.2.1 ≤ 255 ∧ q.2.2.2 ≤ 255
theorem dot_noDig (r : List UInt8) : noDig (46 :: r) := fun b hb => by simp at hb; subst hb; rfl
theorem slash_noDig (r : List UInt8) : noDig (47 :: r) := fun b hb => by simp at hb; subst hb; rfl
theorem nil_noDig : noDig [] := fun b hb => by simp at hb
theorem scanA_quad {q : Quad} {r : List UInt8} (hq : small q) (hr : noDig r) : scanA (quadT q ++ r) = some (q, r) := by
  obtain ⟨a, b, c, d⟩ := q
  obtain ⟨h1, h2, h3, h4⟩ := hq
  unfold scanA quadT
  simp only [List.append_assoc, List.cons_append] at *
  rw [scanN_dec h1 (dot_noDig _)]
  simp only [Option.bind_some, scanD]
  rw [scanN_dec h2 (dot_noDig _)]
  simp only [Option.bind_some, scanD]
  rw [scanN_dec h3 (dot_noDig _)]
  simp only [Option.bind_some, scanD]
  rw [scanN_dec h4 hr]
  rfl
theorem scanD_some {l r : List UInt8} {k : Nat} (h : scanD l = some (k, r)) : l = 46 :: (decDigits k ++ r) ∧ k ≤ 255 ∧ noDig r := by
  unfold scanD at h
  split at h
  · obtain ⟨e, h1, h2⟩ := scanN_some h
    exact ⟨by rw [e], h1, h2⟩
  · cases h
theorem scanA_some {l r : List UInt8} {q : Quad} (h : scanA l = some (q, r)) : l = quadT q ++ r ∧ small q ∧ noDig r := by
  unfold scanA at h
  obtain ⟨⟨a, r1⟩, h1, h⟩ := Option.bind_eq_some_iff.1 h
  obtain ⟨⟨b, r2⟩, h2, h⟩ := Option.bind_eq_some_iff.1 h
  obtain ⟨⟨c, r3⟩, h3, h⟩ := Option.bind_eq_some_iff.1 h
  obtain ⟨⟨d, r4⟩, h4, h⟩ := Option.bind_eq_some_iff.1 h
  simp only [Option.some.injEq, Prod.mk.injEq] at h
  obtain ⟨rfl, rfl⟩ := h
  obtain ⟨e1, b1, n1⟩ := scanN_some h1
  obtain ⟨e2, b2, n2⟩ := scanD_some h2
  obtain ⟨e3, b3, n3⟩ := scanD_some h3
  obtain ⟨e4, b4, n4⟩ := scanD_some h4
  simp only at e2 e3 e4
  refine ⟨?_, ⟨b1, b2, b3, b4⟩, n4⟩
  rw [e1, e2, e3, e4]
  simp [quadT]
/-- a text is an address; which one -/
def addrB (l : List UInt8) : Option Quad := match scanA l with
  | some (q, []) => some q
  | _ => none
theorem addrB_some {l : List UInt8} {q : Quad} : addrB l = some q ↔ l = quadT q ∧ small q := by
  constructor
  · intro h
    unfold addrB at h
    split at h
    · rename_i q' hs
      cases h
      obtain ⟨e, hs, _⟩ := scanA_some hs
      exact ⟨by simpa using e, hs⟩
    · cases h
  · rintro ⟨rfl, hs⟩
    unfold addrB
    have := scanA_quad (r := []) hs nil_noDig
    rw [List.append_nil] at this
    rw [this]
/-- a text is a range: its address, how many bits count -/
def rangeB (l : List UInt8) : Option (Quad × Nat) := match scanA l with
  | some (q, []) => some (q, 32)
  | some (q, 47 :: r) => (match scanN r with
    | some (n, []) => if n ≤ 32 then some (q, n) else none
    | _ => none)
  | _ => none
theorem rangeB_some {l : List UInt8} {q : Quad} {n : Nat} : rangeB l = some (q, n) ↔ small q ∧ ((l = quadT q ∧ n = 32) ∨ (l = quadT q ++ 47 :: decDigits n ∧ n ≤ 32)) := by
  constructor
  · intro h
    unfold rangeB at h
    split at h
    · rename_i q' hs
      cases h
      obtain ⟨e, hs, _⟩ := scanA_some hs
      exact ⟨hs, .inl ⟨by simpa using e, rfl⟩⟩
    · rename_i q' r hs
      obtain ⟨e, hs, _⟩ := scanA_some hs
      split at h
      · rename_i n' hn
        split at h
        · cases h
          obtain ⟨e2, _, _⟩ := scanN_some hn
          exact ⟨hs, .inr ⟨by rw [e, e2]; simp, by assumption⟩⟩
        · cases h
      · cases h
    · cases h
  · rintro ⟨hs, ⟨rfl, rfl⟩ | ⟨rfl, hn⟩⟩
    · unfold rangeB
      have := scanA_quad (r := []) hs nil_noDig
      rw [List.append_nil] at this
      rw [this]
    · unfold rangeB
      rw [scanA_quad hs (slash_noDig _)]
      have := scanN_dec (k := n) (r := []) (by omega) nil_noDig
      rw [List.append_nil] at this
      simp only [this]
      rw [if_pos hn]
end Go.Proofs.YtgjgafibipepeaaGreatDoor.Q
namespace Go.Proofs.YtgjgafibipepeaaGreatDoor.Q
open Go.Lib
set_option linter.unusedVariables false
set_option linter.unusedSimpArgs false

/-! A TEXT, CUT AT A BYTE -/
def splitC (c : UInt8) : List UInt8 → List (List UInt8)
  | [] => [[]]
  | b :: l => if b = c then [] :: splitC c l else (match splitC c l with
    | h :: t => (b :: h) :: t
    | [] => [[b]])
theorem splitC_ne (c : UInt8) (l : List UInt8) : splitC c l ≠ [] := by
  cases l with
  | nil => simp [splitC]
  | cons b l => unfold splitC; split; simp; split <;> simp
theorem splitC_none {c : UInt8} {a : List UInt8} (h : c ∉ a) : splitC c a = [a] := by
  induction a with
  | nil => rfl
  | cons b a ih =>
    rw [List.mem_cons, not_or] at h
    unfold splitC
    rw [if_neg (fun e => h.1 e.symm), ih h.2]
theorem splitC_hit {c : UInt8} {a r : List UInt8} (h : c ∉ a) : splitC c (a ++ c :: r) = a :: splitC c r := by
  induction a with
  | nil => simp [splitC]
  | cons b a ih =>
    rw [List.mem_cons, not_or] at h
    rw [List.cons_append, splitC, if_neg (fun e => h.1 e.symm), ih h.2]
theorem byte_cases (l : List UInt8) (c : UInt8) : (c ∉ l ∧ indexByte l c = -1) ∨ ∃ a r, l = a ++ c :: r ∧ c ∉ a ∧ indexByte l c = a.length := by
  induction l with
  | nil => exact .inl ⟨by simp, rfl⟩
  | cons b l ih =>
    by_cases hb : b = c
    · subst hb
      exact .inr ⟨[], l, rfl, by simp, by simp [indexByte]⟩
    · have hb' : (b == c) = false := beq_eq_false_iff_ne.2 hb
      rcases ih with ⟨h1, h2⟩ | ⟨a, r, h1, h2, h3⟩
      · exact .inl ⟨by rw [List.mem_cons, not_or]; exact ⟨fun e => hb e.symm, h1⟩, by simp [indexByte, hb', h2]⟩
      · refine .inr ⟨b :: a, r, by rw [h1]; rfl, by rw [List.mem_cons, not_or]; exact ⟨fun e => hb e.symm, h2⟩, ?_⟩
        have h4 : ¬ ((a.length : Int) == -1) = true := fun e => by have := beq_iff_eq.1 e; omega
        unfold indexByte
        rw [hb', h3]
        simp only [Bool.false_eq_true, if_false]
        rw [if_neg h4]
        simp
theorem splitK_one (c : UInt8) : ∀ (k : Nat) (l : List UInt8), l.count c ≤ k → splitK [c] 0 k l = splitC c l
  | 0, l, h => by
    have : c ∉ l := List.count_eq_zero.1 (by omega)
    rw [splitC_none this]; rfl
  | k + 1, l, h => by
    unfold splitK
    rw [index_one]
    rcases byte_cases l c with ⟨h1, h2⟩ | ⟨a, r, rfl, h2, h3⟩
    · rw [h2, splitC_none h1]; rfl
    · rw [h3]
      have h4 : ¬ ((a.length : Int) == -1) = true := fun e => by have := beq_iff_eq.1 e; omega
      have e1 : List.take ((a.length : Int).toNat + 0) (a ++ c :: r) = a := by simp
      have e2 : List.drop ((a.length : Int).toNat + [c].length) (a ++ c :: r) = r := by simp
      rw [if_neg h4, splitC_hit h2, e1, e2, splitK_one c k r (by
        rw [List.count_append, List.count_cons_self] at h
        have := List.count_eq_zero.2 h2
        omega)]
theorem parts_one (s : ByteArray) (c : UInt8) : (splitB ⟨#[c]⟩ 0 (countB s ⟨#[c]⟩) s).map (·.data.toList) = splitC c s.data.toList := by
  rw [splitB_data]
  have hc : countB s ⟨#[c]⟩ = s.data.toList.count c := count_one c s.data.toList
  exact splitK_one c _ _ (by rw [hc]; exact Nat.le_refl _)
theorem not_dig_mem {c : UInt8} (hc : isDig c = false) (k : Nat) : c ∉ decDigits k := fun h => by
  have := dec_digits k c h
  rw [hc] at this; cases this
/-- the parts of an address -/
def addrP : List (List UInt8) → Option Quad
  | [a, b, c, d] => (numB 255 a).bind fun a => (numB 255 b).bind fun b => (numB 255 c).bind fun c => (numB 255 d).bind fun d => some (a, b, c, d)
  | _ => none
theorem splitC_quad (q : Quad) : splitC 46 (quadT q) = [decDigits q.1, decDigits q.2.1, decDigits q.2.2.1, decDigits q.2.2.2] := by
  have h : isDig 46 = false := rfl
  unfold quadT
  rw [splitC_hit (not_dig_mem h _), splitC_hit (not_dig_mem h _), splitC_hit (not_dig_mem h _), splitC_none (not_dig_mem h _)]
theorem numB_dec {k most : Nat} (h : k ≤ most) : numB most (decDigits k) = some k := numB_some.2 ⟨rfl, h⟩
theorem splitC_two {c : UInt8} {l a b : List UInt8} {t : List (List UInt8)} (h : splitC c l = a :: b :: t) : ∃ r, l = a ++ c :: r ∧ splitC c r = b :: t := by
  induction l generalizing a b t with
  | nil => simp [splitC] at h
  | cons x l ih =>
    unfold splitC at h
    split at h
    · rename_i hx
      subst hx
      simp only [List.cons.injEq] at h
      obtain ⟨rfl, h⟩ := h
      exact ⟨l, rfl, h⟩
    · split at h
      · rename_i h' t' hs
        simp only [List.cons.injEq] at h
        obtain ⟨rfl, rfl⟩ := h
        obtain ⟨r, rfl, hr⟩ := ih hs
        exact ⟨r, rfl, hr⟩
      · simp at h
theorem splitC_last {c : UInt8} {l a : List UInt8} (h : splitC c l = [a]) : l = a := by
  induction l generalizing a with
  | nil => simp [splitC] at h; exact h.symm
  | cons x l ih =>
    unfold splitC at h
    split at h
    · simp only [List.cons.injEq] at h
      exact absurd h.2 (splitC_ne _ _)
    · split at h
      · rename_i h' t' hs
        simp only [List.cons.injEq] at h
        obtain ⟨rfl, rfl⟩ := h
        rw [ih hs]
      · rename_i hs; exact absurd hs (splitC_ne _ _)
theorem addr_split (l : List UInt8) : addrP (splitC 46 l) = addrB l := by
  apply Option.ext
  intro q
  rw [addrB_some]
  constructor
  · intro h
    obtain ⟨ps, hps⟩ : ∃ ps, splitC 46 l = ps := ⟨_, rfl⟩
    rw [hps] at h
    unfold addrP at h
    split at h
    · rename_i a b c d
      obtain ⟨na, ha, h⟩ := Option.bind_eq_some_iff.1 h
      obtain ⟨nb, hb, h⟩ := Option.bind_eq_some_iff.1 h
      obtain ⟨nc, hc, h⟩ := Option.bind_eq_some_iff.1 h
      obtain ⟨nd, hd, h⟩ := Option.bind_eq_some_iff.1 h
      cases h
      obtain ⟨rfl, ha'⟩ := numB_some.1 ha
      obtain ⟨rfl, hb'⟩ := numB_some.1 hb
      obtain ⟨rfl, hc'⟩ := numB_some.1 hc
      obtain ⟨rfl, hd'⟩ := numB_some.1 hd
      obtain ⟨r1, rfl, h1⟩ := splitC_two hps
      obtain ⟨r2, rfl, h2⟩ := splitC_two h1
      obtain ⟨r3, rfl, h3⟩ := splitC_two h2
      have := splitC_last h3
      subst this
      exact ⟨rfl, ha', hb', hc', hd'⟩
    · cases h
  · rintro ⟨rfl, h1, h2, h3, h4⟩
    rw [splitC_quad]
    simp [addrP, numB_dec h1, numB_dec h2, numB_dec h3, numB_dec h4]
/-- a range, out of what Cut gives -/
theorem cut_cases (l : List UInt8) (c : UInt8) : (c ∉ l ∧ cut l [c] = (l, [], false)) ∨ ∃ a r, l = a ++ c :: r ∧ c ∉ a ∧ cut l [c] = (a, r, true) := by
  unfold cut
  rw [index_one]
  rcases byte_cases l c with ⟨h1, h2⟩ | ⟨a, r, rfl, h2, h3⟩
  · refine .inl ⟨h1, ?_⟩
    rw [h2, if_neg (by decide)]
  · refine .inr ⟨a, r, rfl, h2, ?_⟩
    rw [h3, if_pos (by omega)]
    simp
theorem slash_quad (q : Quad) : (47 : UInt8) ∉ quadT q := by
  have h : isDig 47 = false := rfl
  unfold quadT
  simp [not_dig_mem h]
theorem range_plain {l : List UInt8} (h : (47 : UInt8) ∉ l) : rangeB l = (addrB l).map (fun q => (q, 32)) := by
  apply Option.ext
  rintro ⟨q, n⟩
  rw [rangeB_some, Option.map_eq_some_iff]
  constructor
  · rintro ⟨hs, ⟨rfl, rfl⟩ | ⟨rfl, _⟩⟩
    · exact ⟨q, addrB_some.2 ⟨rfl, hs⟩, rfl⟩
    · simp at h
  · rintro ⟨q', h1, h2⟩
    cases h2
    obtain ⟨rfl, hs⟩ := addrB_some.1 h1
    exact ⟨hs, .inl ⟨rfl, rfl⟩⟩
theorem range_cut {a r : List UInt8} (h : (47 : UInt8) ∉ a) : rangeB (a ++ 47 :: r) = (addrB a).bind (fun q => (numB 32 r).map (fun n => (q, n))) := by
  apply Option.ext
  rintro ⟨q, n⟩
  rw [rangeB_some, Option.bind_eq_some_iff]
  constructor
  · rintro ⟨hs, ⟨e, _⟩ | ⟨e, hn⟩⟩
    · have := slash_quad q
      rw [← e] at this
      simp at this
    · have e1 := congrArg (splitC 47) e
      rw [splitC_hit h, splitC_hit (slash_quad q), List.cons.injEq] at e1
      obtain ⟨rfl, _⟩ := e1
      rw [List.append_right_inj] at e
      simp only [List.cons.injEq, true_and] at e
      subst e
      exact ⟨q, addrB_some.2 ⟨rfl, hs⟩, by rw [numB_dec hn]; rfl⟩
  · rintro ⟨q', h1, h2⟩
    obtain ⟨n', h3, h4⟩ := Option.map_eq_some_iff.1 h2
    cases h4
    obtain ⟨rfl, hs⟩ := addrB_some.1 h1
    obtain ⟨rfl, hn⟩ := numB_some.1 h3
    exact ⟨hs, .inr ⟨rfl, hn⟩⟩
end Go.Proofs.YtgjgafibipepeaaGreatDoor.Q
namespace Go.Proofs.YtgjgafibipepeaaGreatDoor.Q
set_option linter.unusedVariables false
set_option linter.unusedSimpArgs false

/-! BITS -/
def byteAt (q : Quad) : Nat → Nat
  | 0 => q.1
  | 1 => q.2.1
  | 2 => q.2.2.1
  | _ => q.2.2.2
def bitQ (q : Quad) (i : Nat) : Nat := byteAt q (i / 8) / 2 ^ (7 - i % 8) % 2
/-- the first bits are the same -/
def agree (n : Nat) (p q : Quad) : Prop := ∀ i, i < n → bitQ p i = bitQ q i
instance (n : Nat) (p q : Quad) : Decidable (agree n p q) := by unfold agree; infer_instance
def keep (n i : Nat) : Nat := min (n - 8 * i) 8
def top (k x : Nat) : Nat := x / 2 ^ (8 - k) * 2 ^ (8 - k)
def cutQ (n : Nat) (q : Quad) : Quad := (top (keep n 0) q.1, top (keep n 1) q.2.1, top (keep n 2) q.2.2.1, top (keep n 3) q.2.2.2)
theorem top_eq {a b k : Nat} (ha : a ≤ 255) (hb : b ≤ 255) (hk : k ≤ 8) : top k a = top k b ↔ ∀ j, j < k → a / 2 ^ (7 - j) % 2 = b / 2 ^ (7 - j) % 2 := by
  have h9 : k = 0 ∨ k = 1 ∨ k = 2 ∨ k = 3 ∨ k = 4 ∨ k = 5 ∨ k = 6 ∨ k = 7 ∨ k = 8 := by omega
  constructor
  · intro h j hj
    have hj9 : j = 0 ∨ j = 1 ∨ j = 2 ∨ j = 3 ∨ j = 4 ∨ j = 5 ∨ j = 6 ∨ j = 7 := by omega
    unfold top at h
    rcases h9 with rfl | rfl | rfl | rfl | rfl | rfl | rfl | rfl | rfl <;>
    rcases hj9 with rfl | rfl | rfl | rfl | rfl | rfl | rfl | rfl <;> first | (exfalso; omega) | (simp only [Nat.reduceSub, Nat.reducePow] at h ⊢; omega)
  · intro h
    unfold top
    have g : ∀ j, j < k → a / 2 ^ (7 - j) % 2 = b / 2 ^ (7 - j) % 2 := h
    rcases h9 with rfl | rfl | rfl | rfl | rfl | rfl | rfl | rfl | rfl
    · simp only [Nat.reduceSub, Nat.reducePow]; omega
    · have g0 := g 0 (by omega)
      simp only [Nat.reduceSub, Nat.reducePow] at *; omega
    · have g0 := g 0 (by omega); have g1 := g 1 (by omega)
      simp only [Nat.reduceSub, Nat.reducePow] at *; omega
    · have g0 := g 0 (by omega); have g1 := g 1 (by omega); have g2 := g 2 (by omega)
      simp only [Nat.reduceSub, Nat.reducePow] at *; omega
    · have g0 := g 0 (by omega); have g1 := g 1 (by omega); have g2 := g 2 (by omega); have g3 := g 3 (by omega)
      simp only [Nat.reduceSub, Nat.reducePow] at *; omega
    · have g0 := g 0 (by omega); have g1 := g 1 (by omega); have g2 := g 2 (by omega); have g3 := g 3 (by omega); have g4 := g 4 (by omega)
      simp only [Nat.reduceSub, Nat.reducePow] at *; omega
    · have g0 := g 0 (by omega); have g1 := g 1 (by omega); have g2 := g 2 (by omega); have g3 := g 3 (by omega); have g4 := g 4 (by omega); have g5 := g 5 (by omega)
      simp only [Nat.reduceSub, Nat.reducePow] at *; omega
    · have g0 := g 0 (by omega); have g1 := g 1 (by omega); have g2 := g 2 (by omega); have g3 := g 3 (by omega); have g4 := g 4 (by omega); have g5 := g 5 (by omega); have g6 := g 6 (by omega)
      simp only [Nat.reduceSub, Nat.reducePow] at *; omega
    · have g0 := g 0 (by omega); have g1 := g 1 (by omega); have g2 := g 2 (by omega); have g3 := g 3 (by omega); have g4 := g 4 (by omega); have g5 := g 5 (by omega); have g6 := g 6 (by omega); have g7 := g 7 (by omega)
      simp only [Nat.reduceSub, Nat.reducePow] at *; omega
theorem keep_le (n i : Nat) : keep n i ≤ 8 := by unfold keep; omega
theorem cut_agree {n : Nat} {p q : Quad} (hn : n ≤ 32) (hp : small p) (hq : small q) : cutQ n p = cutQ n q ↔ agree n p q := by
  obtain ⟨a, b, c, d⟩ := p
  obtain ⟨a', b', c', d'⟩ := q
  obtain ⟨h1, h2, h3, h4⟩ := hp
  obtain ⟨g1, g2, g3, g4⟩ := hq
  unfold cutQ
  simp only [Prod.mk.injEq] at *
  rw [top_eq h1 g1 (keep_le _ _), top_eq h2 g2 (keep_le _ _), top_eq h3 g3 (keep_le _ _), top_eq h4 g4 (keep_le _ _)]
  unfold keep
  constructor
  · rintro ⟨k1, k2, k3, k4⟩ i hi
    unfold bitQ
    have hd : i / 8 = 0 ∨ i / 8 = 1 ∨ i / 8 = 2 ∨ i / 8 = 3 := by omega
    rcases hd with e | e | e | e <;> rw [e]
    · exact k1 (i % 8) (by omega)
    · exact k2 (i % 8) (by omega)
    · exact k3 (i % 8) (by omega)
    · exact k4 (i % 8) (by omega)
  · intro h
    refine ⟨fun j hj => ?_, fun j hj => ?_, fun j hj => ?_, fun j hj => ?_⟩
    · have := h j (by omega)
      unfold bitQ at this
      rw [show j / 8 = 0 by omega, show j % 8 = j by omega] at this
      exact this
    · have := h (8 + j) (by omega)
      unfold bitQ at this
      rw [show (8 + j) / 8 = 1 by omega, show (8 + j) % 8 = j by omega] at this
      exact this
    · have := h (16 + j) (by omega)
      unfold bitQ at this
      rw [show (16 + j) / 8 = 2 by omega, show (16 + j) % 8 = j by omega] at this
      exact this
    · have := h (24 + j) (by omega)
      unfold bitQ at this
      rw [show (24 + j) / 8 = 3 by omega, show (24 + j) % 8 = j by omega] at this
      exact this
/-- all bits as one number -/
def allQ (q : Quad) : Nat := ((q.1 * 256 + q.2.1) * 256 + q.2.2.1) * 256 + q.2.2.2
end Go.Proofs.YtgjgafibipepeaaGreatDoor.Q
namespace Go.Proofs.YtgjgafibipepeaaGreatDoor.Q
open Go.Lib
set_option linter.unusedVariables false
set_option linter.unusedSimpArgs false

/-! NAMES -/
/-- may a code point stand in a name? -/
def okC (c : Nat) : Bool := decide ((97 ≤ c ∧ c ≤ 122) ∨ (48 ≤ c ∧ c ≤ 57) ∨ c = 46 ∨ c = 95 ∨ c = 45)
def okB (b : UInt8) : Bool := okC b.toNat
def nameB (l : List UInt8) : Bool := l.all okB && decide (1 ≤ l.length) && decide (l.length ≤ 24)
theorem decode_low (s : ByteArray) (i : Nat) (h : (s.get! i).toNat < 128) : Utf8.decode s i = ((s.get! i).toNat, 1) := by
  rw [decode_at]; unfold decodeN; rw [if_pos h]
theorem decode_high (s : ByteArray) (i : Nat) (h : 128 ≤ (s.get! i).toNat) : 128 ≤ (Utf8.decode s i).1 := by
  rw [decode_at]; unfold decodeN; rw [if_neg (by omega)]
  repeat' split
  all_goals (simp only; omega)
/-- the code point at a place is right just if the byte is -/
theorem okC_at (s : ByteArray) (i : Nat) : okC (Utf8.decode s i).1 = okC (s.get! i).toNat := by
  by_cases h : (s.get! i).toNat < 128
  · rw [decode_low s i h]
  · have h2 := decode_high s i (by omega)
    have e1 : okC (Utf8.decode s i).1 = false := by unfold okC; simp; omega
    have e2 : okC (s.get! i).toNat = false := by unfold okC; simp; omega
    rw [e1, e2]
theorem okC_one (s : ByteArray) (i : Nat) (h : okC (Utf8.decode s i).1 = true) : (Utf8.decode s i).2 = 1 := by
  by_cases hb : (s.get! i).toNat < 128
  · rw [decode_low s i hb]
  · have h2 := decode_high s i (by omega)
    unfold okC at h
    simp at h
    omega
theorem get_at (s : ByteArray) (i : Nat) (h : i < s.size) : s.data.toList[i]? = some (s.get! i) := by
  rw [Array.getElem?_toList]
  have h' : i < s.data.size := h
  rw [Array.getElem?_eq_getElem h']
  congr 1
  show s.data[i] = s.data[i]!
  rw [getElem!_pos s.data i h']
/-- all right up to a place -/
def okTo (s : ByteArray) (i : Nat) : Prop := ∀ j, j < i → okC (s.get! j).toNat = true
theorem okTo_all (s : ByteArray) (h : okTo s s.size) : s.data.toList.all okB = true := by
  rw [List.all_eq_true]
  intro b hb
  obtain ⟨j, hj, e⟩ := List.mem_iff_getElem.1 hb
  have hj' : j < s.size := hj
  have := get_at s j hj'
  rw [List.getElem?_eq_getElem hj, e] at this
  rw [Option.some.inj this]
  exact h j hj'
theorem not_all (s : ByteArray) {i : Nat} (hi : i < s.size) (h : okC (s.get! i).toNat = false) : s.data.toList.all okB = false := by
  rw [Bool.eq_false_iff]
  intro ha
  have := List.all_eq_true.1 ha _ (List.mem_of_getElem? (get_at s i hi))
  unfold okB at this
  rw [h] at this; cases this
end Go.Proofs.YtgjgafibipepeaaGreatDoor.Q
