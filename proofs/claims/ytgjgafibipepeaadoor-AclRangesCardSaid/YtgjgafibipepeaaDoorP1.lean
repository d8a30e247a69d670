import Derived.Test.YtgjgafibipepeaaDoorP0
namespace Go.Proofs.YtgjgafibipepeaaDoor.Q
open Go.Lib
set_option linter.unusedVariables false
set_option linter.unusedSimpArgs false

/-! ADDRESSES AND RANGES, AS TEXTS -/
theorem dig_range {b : UInt8} : isDig b = true ↔ 48 ≤ b.toNat ∧ b.toNat ≤ 57 := by unfold isDig; simp
/-- a number at the beginning: what it is, what is left -/
def scanN (l : List UInt8) : Option (Nat × List UInt8) :=
  let d := (l.take 4).takeWhile isDig
  if d = [] ∨ 255 < val d ∨ (1 < d.length ∧ d.head? = some 48) then none else some (val d, l.drop d.length)
def noDig (r : List UInt8) : Prop := ∀ b, r.head? = some b → isDig b = false
theorem takeWhile_dec {d r : List UInt8} (hd : ∀ b ∈ d, isDig b = true) (hr : noDig r) (hl : d.length ≤ 3) : ((d ++ r).take 4).takeWhile isDig = d := by
  rw [List.take_append, List.take_of_length_le (by omega), List.takeWhile_append_of_pos hd]
  match r with
  | [] => simp
  | b :: r =>
    have hb := hr b rfl
    obtain ⟨m, hm⟩ : ∃ m, 4 - d.length = m + 1 := ⟨3 - d.length, by omega⟩
    rw [hm, List.take_succ_cons, List.takeWhile_cons, hb]
    simp
theorem dec_len {k : Nat} (hk : k ≤ 255) : (decDigits k).length ≤ 3 := by
  by_cases h1 : k < 10
  · rw [decDigits_one h1]; simp
  · by_cases h2 : k < 100
    · rw [decDigits_two h1 h2]; simp
    · rw [dec_three h2 (by omega)]; simp
theorem dec_lead {k : Nat} (hk : k ≤ 255) : ¬ (1 < (decDigits k).length ∧ (decDigits k).head? = some 48) := by
  have e48 : (48 : UInt8).toNat = 48 := rfl
  by_cases h1 : k < 10
  · rw [decDigits_one h1]; simp
  · by_cases h2 : k < 100
    · rw [decDigits_two h1 h2]
      rintro ⟨_, h⟩
      have h := congrArg UInt8.toNat (Option.some.inj h)
      rw [ofNat_toNat (by omega), e48] at h
      omega
    · rw [dec_three h2 (by omega)]
      rintro ⟨_, h⟩
      have h := congrArg UInt8.toNat (Option.some.inj h)
      rw [ofNat_toNat (by omega), e48] at h
      omega
theorem scanN_dec {k : Nat} {r : List UInt8} (hk : k ≤ 255) (hr : noDig r) : scanN (decDigits k ++ r) = some (k, r) := by
  unfold scanN
  simp only
  rw [takeWhile_dec (dec_digits k) hr (dec_len hk), val_dec, if_neg]
  · simp
  · rintro (h | h | h)
    · exact dec_ne k h
    · omega
    · exact dec_lead hk h
theorem val_one (a : UInt8) : val [a] = a.toNat - 48 := by simp [val]
theorem val_two (a b : UInt8) : val [a, b] = (a.toNat - 48) * 10 + (b.toNat - 48) := by simp [val]
theorem val_three (a b c : UInt8) : val [a, b, c] = ((a.toNat - 48) * 10 + (b.toNat - 48)) * 10 + (c.toNat - 48) := by simp [val]
theorem val_four (a b c d : UInt8) : val [a, b, c, d] = (((a.toNat - 48) * 10 + (b.toNat - 48)) * 10 + (c.toNat - 48)) * 10 + (d.toNat - 48) := by simp [val]
theorem toNat_inj {a : UInt8} {n : Nat} (h : a.toNat = n) (hn : n < 256) : a = UInt8.ofNat n := by
  apply UInt8.toNat_inj.1; rw [ofNat_toNat hn]; exact h
/-- digits without a needless 0 are how their number is written -/
theorem dec_val {d : List UInt8} (hd : ∀ b ∈ d, isDig b = true) (h0 : d ≠ []) (h1 : val d ≤ 255) (h2 : ¬ (1 < d.length ∧ d.head? = some 48)) (h3 : d.length ≤ 4) : d = decDigits (val d) := by
  match d, h0, h3 with
  | [a], _, _ =>
    have ha := dig_range.1 (hd a (by simp))
    rw [val_one, decDigits_one (by omega)]
    congr 1
    exact toNat_inj (by omega) (by omega)
  | [a, b], _, _ =>
    have ha := dig_range.1 (hd a (by simp))
    have hb := dig_range.1 (hd b (by simp))
    have hz : a.toNat ≠ 48 := fun e => h2 ⟨by simp, by simp [toNat_inj e (by omega)]⟩
    rw [val_two, decDigits_two (by omega) (by omega)]
    congr 1
    · exact toNat_inj (by omega) (by omega)
    · congr 1; exact toNat_inj (by omega) (by omega)
  | [a, b, c], _, _ =>
    have ha := dig_range.1 (hd a (by simp))
    have hb := dig_range.1 (hd b (by simp))
    have hc := dig_range.1 (hd c (by simp))
    have hz : a.toNat ≠ 48 := fun e => h2 ⟨by simp, by simp [toNat_inj e (by omega)]⟩
    rw [val_three] at h1 ⊢
    rw [dec_three (by omega) (by omega)]
    congr 1
    · exact toNat_inj (by omega) (by omega)
    · congr 1
      · exact toNat_inj (by omega) (by omega)
      · congr 1; exact toNat_inj (by omega) (by omega)
  | [a, b, c, e], _, _ =>
    have ha := dig_range.1 (hd a (by simp))
    have hb := dig_range.1 (hd b (by simp))
    have hc := dig_range.1 (hd c (by simp))
    have hz : a.toNat ≠ 48 := fun e => h2 ⟨by simp, by simp [toNat_inj e (by omega)]⟩
    rw [val_four] at h1
    omega
theorem scanN_some {l r : List UInt8} {k : Nat} (h : scanN l = some (k, r)) : l = decDigits k ++ r ∧ k ≤ 255 ∧ noDig r := by
  unfold scanN at h
  simp only at h
  split at h
  · cases h
  rename_i hc
  rw [not_or, not_or] at hc
  obtain ⟨c1, c2, c3⟩ := hc
  obtain ⟨d, hd⟩ : ∃ d, (l.take 4).takeWhile isDig = d := ⟨_, rfl⟩
  rw [hd] at h c1 c2 c3
  simp only [Option.some.injEq, Prod.mk.injEq] at h
  obtain ⟨hk, hr⟩ := h
  have hall : ∀ b ∈ d, isDig b = true := by rw [← hd]; exact fun b hb => List.all_eq_true.1 List.all_takeWhile b hb
  have hpre : d <+: l := by rw [← hd]; exact (List.takeWhile_prefix _).trans (List.take_prefix _ _)
  have hlen : d.length ≤ 4 := by
    have := (List.takeWhile_prefix (p := isDig) (l := l.take 4)).length_le
    rw [hd] at this
    have := List.length_take_le 4 l
    omega
  have hdv := dec_val hall c1 (by omega) c3 hlen
  have hl : l = d ++ r := by rw [← hr]; exact (List.prefix_iff_eq_append.1 hpre).symm
  have hle : d.length ≤ 3 := by rw [hdv]; exact dec_len (by omega)
  refine ⟨by rw [hl, ← hk, ← hdv], by omega, fun b hb => ?_⟩
  cases hbd : isDig b with
  | false => rfl
  | true =>
    obtain ⟨r', rfl⟩ : ∃ r', r = b :: r' := by
      match r, hb with
      | x :: r', hb => exact ⟨r', by simp at hb; rw [hb]⟩
    obtain ⟨m, hm⟩ : ∃ m, 4 - d.length = m + 1 := ⟨3 - d.length, by omega⟩
    have := hd
    rw [hl, List.take_append, List.take_of_length_le (by omega), List.takeWhile_append_of_pos hall, hm, List.take_succ_cons, List.takeWhile_cons, hbd] at this
    simp at this
abbrev Quad := Nat × Nat × Nat × Nat
/-- a dot, and a number behind it -/
def scanD : List UInt8 → Option (Nat × List UInt8)
  | 46 :: r => scanN r
  | _ => none
/-- an address at the beginning -/
def scanA (l : List UInt8) : Option (Quad × List UInt8) :=
  (scanN l).bind fun x => (scanD x.2).bind fun y => (scanD y.2).bind fun z => (scanD z.2).bind fun w => some ((x.1, y.1, z.1, w.1), w.2)
def quadT (q : Quad) : List UInt8 := decDigits q.1 ++ 46 :: (decDigits q.2.1 ++ 46 :: (decDigits q.2.2.1 ++ 46 :: decDigits q.2.2.2))
def small (q : Quad) : Prop := q.1 ≤ 255 ∧ q.2.1 ≤ 255 ∧ q.2.2.1 ≤ 255 ∧ q.2.2.2 ≤ 255
theorem dot_noDig (r : List UInt8) : noDig (46 :: r) := fun b hb => by simp at hb; subst hb; rfl
theorem slash_noDig (r : List UInt8) : noDig (47 :: r) := fun b hb => by simp at hb; subst hb; rfl
theorem nil_noDig : noDig [] := fun b hb => by simp at hb
theorem scanA_quad {q : Quad} {r : List UInt8} (hq : small q) (hr : noDig r) : scanA (quadT q ++ r) = some (q, r) := by
  obtain ⟨a, b, c, d⟩ := q
  obtain ⟨h1, h2, h3, h4⟩ := hq
  unfold scanA quadT
  simp only [List.append_assoc, List.cons_append] at *
  rw [scanN_dec h1 (dot_noDig _)]
  simp only [Option.bind_some, scanD]
  rw [scanN_dec h2 (dot_noDig _)]
  simp only [Option.bind_some, scanD]
  rw [scanN_dec h3 (dot_noDig _)]
  simp only [Option.bind_some, scanD]
  rw [scanN_dec h4 hr]
  rfl
theorem scanD_some {l r : List UInt8} {k : Nat} (h : scanD l = some (k, r)) : l = 46 :: (decDigits k ++ r) ∧ k ≤ 255 ∧ noDig r := by
  unfold scanD at h
  split at h
  · obtain ⟨e, h1, h2⟩ := scanN_some h
    exact ⟨by rw [e], h1, h2⟩
  · cases h
theorem scanA_some {l r : List UInt8} {q : Quad} (h : scanA l = some (q, r)) : l = quadT q ++ r ∧ small q ∧ noDig r := by
  unfold scanA at h
  obtain ⟨⟨a, r1⟩, h1, h⟩ := Option.bind_eq_some_iff.1 h
  obtain ⟨⟨b, r2⟩, h2, h⟩ := Option.bind_eq_some_iff.1 h
  obtain ⟨⟨c, r3⟩, h3, h⟩ := Option.bind_eq_some_iff.1 h
  obtain ⟨⟨d, r4⟩, h4, h⟩ := Option.bind_eq_some_iff.1 h
  simp only [Option.some.injEq, Prod.mk.injEq] at h
  obtain ⟨rfl, rfl⟩ := h
  obtain ⟨e1, b1, n1⟩ := scanN_some h1
  obtain ⟨e2, b2, n2⟩ := scanD_some h2
  obtain ⟨e3, b3, n3⟩ := scanD_some h3
  obtain ⟨e4, b4, n4⟩ := scanD_some h4
  simp only at e2 e3 e4
  refine ⟨?_, ⟨b1, b2, b3, b4⟩, n4⟩
  rw [e1, e2, e3, e4]
  simp [quadT]
/-- a text is an address; which one -/
def addrB (l : List UInt8) : Option Quad := match scanA l with
  | some (q, []) => some q
  | _ => none
theorem addrB_some {l : List UInt8} {q : Quad} : addrB l = some q ↔ l = quadT q ∧ small q := by
  constructor
  · intro h
    unfold addrB at h
    split at h
    · rename_i q' hs
      cases h
      obtain ⟨e, hs, _⟩ := scanA_some hs
      exact ⟨by simpa using e, hs⟩
    · cases h
  · rintro ⟨rfl, hs⟩
    unfold addrB
    have := scanA_quad (r := []) hs nil_noDig
    rw [List.append_nil] at this
    rw [this]
/-- a text is a range: its address, how many bits count -/
def rangeB (l : List UInt8) : Option (Quad × Nat) := match scanA l with
  | some (q, []) => some (q, 32)
  | some (q, 47 :: r) => (match scanN r with
    | some (n, []) => if n ≤ 32 then some (q, n) else none
    | _ => none)
  | _ => none
theorem rangeB_some {l : List UInt8} {q : Quad} {n : Nat} : rangeB l = some (q, n) ↔ small q ∧ ((l = quadT q ∧ n = 32) ∨ (l = quadT q ++ 47 :: decDigits n ∧ n ≤ 32)) := by
  constructor
  · intro h
    unfold rangeB at h
    split at h
    · rename_i q' hs
      cases h
      obtain ⟨e, hs, _⟩ := scanA_some hs
      exact ⟨hs, .inl ⟨by simpa using e, rfl⟩⟩
    · rename_i q' r hs
      obtain ⟨e, hs, _⟩ := scanA_some hs
      split at h
      · rename_i n' hn
        split at h
        · cases h
          obtain ⟨e2, _, _⟩ := scanN_some hn
          exact ⟨hs, .inr ⟨by rw [e, e2]; simp, by assumption⟩⟩
        · cases h
      · cases h
    · cases h
  · rintro ⟨hs, ⟨rfl, rfl⟩ | ⟨rfl, hn⟩⟩
    · unfold rangeB
      have := scanA_quad (r := []) hs nil_noDig
      rw [List.append_nil] at this
      rw [this]
    · unfold rangeB
      rw [scanA_quad hs (slash_noDig _)]
      have := scanN_dec (k := n) (r := []) (by omega) nil_noDig
      rw [List.append_nil] at this
      simp only [this]
      rw [if_pos hn]
end Go.Proofs.YtgjgafibipepeaaDoor.Q
