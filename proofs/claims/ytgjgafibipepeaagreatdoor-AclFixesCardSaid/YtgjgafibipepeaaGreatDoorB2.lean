import Derived.Test.YtgjgafibipepeaaGreatDoorPr0
import Derived.Test.YtgjgafibipepeaaGreatDoorPr1
import Derived.Test.YtgjgafibipepeaaGreatDoorPr2
import Derived.Test.YtgjgafibipepeaaGreatDoorPr3
import Derived.Test.YtgjgafibipepeaaGreatDoorPr4
import Derived.Test.YtgjgafibipepeaaGreatDoorPr5
import Derived.Test.YtgjgafibipepeaaGreatDoorPr6
import Derived.Test.YtgjgafibipepeaaGreatDoorPr7
import Derived.Test.YtgjgafibipepeaaGreatDoorPr8
import Derived.Test.YtgjgafibipepeaaGreatDoorPr9
import Derived.Test.YtgjgafibipepeaaGreatDoorQc
namespace Go.Proofs.YtgjgafibipepeaaGreatDoor.Q
open Go.RowKit Go.Proofs.YtgjgafibipepeaaGreatDoorW.PrintWords Go.Lib
open Go.Proofs.YtgjgafibipepeaaGreatDoor.Pr
set_option linter.unusedVariables false
set_option linter.unusedSimpArgs false
/-! THE REFERENCE: ADDRESSES, RANGES, NAMES, WHO IS MET -/
theorem w64 {x : Int} (h0 : -9223372036854775808 ≤ x) (h1 : x ≤ 9223372036854775807) : wrap64 x = x := by unfold wrap64; omega
theorem bt_at {s : ByteArray} {i : Nat} {b : UInt8} (h : s.data.toList[i]? = some b) : bt s (i : Int) = (b.toNat : Int) := by
  have hi : i < s.size := (List.getElem?_eq_some_iff.1 h).1
  unfold bt
  simp only [Int.toNat_natCast]
  rw [dif_pos hi]
  congr 2
  have h2 := (List.getElem?_eq_some_iff.1 h).2
  rw [← h2]
  rfl
theorem len_data (s : ByteArray) : s.data.toList.length = s.size := rfl
abbrev Res := Int × Int × Bool
/-- what stands behind the digits -/
def numEnd (s : ByteArray) (x1 x7 x8 : Int) : Option Res :=
  (if x8 = x1 then (some (0, x1, false)) else (if x7 > 255 then (some (0, x1, false)) else (if (wrap64 (x8 - x1)) > 1 then (if 0 ≤ x1 then (if x1 < (s.size : Int) then (if (bt s x1) = 48 then (some (0, x1, false)) else (some (x7, x8, true))) else (none)) else (none)) else (some (x7, x8, true)))))
theorem num_l0 (k : Nat) (s : ByteArray) (x1 x7 x8 : Int) : lagoonref06_number.l0 (k + 1) s x1 x7 x8 =
    (if x8 < (s.size : Int) then (if 0 ≤ x8 then (if (bt s x8) ≥ 48 then (if (bt s x8) ≤ 57 then (if (wrap64 (x8 - x1)) < 4 then (lagoonref06_number.l0 k s x1 (wrap64 ((wrap64 (10 * x7)) + (((bt s x8) - 48) % 256))) (wrap64 (x8 + 1))) else numEnd s x1 x7 x8) else numEnd s x1 x7 x8) else numEnd s x1 x7 x8) else none) else numEnd s x1 x7 x8) := by
  rw [lagoonref06_number.l0]; rfl
theorem val_le : ∀ (l : List UInt8), l.length ≤ 4 → (∀ b ∈ l, isDig b = true) → val l ≤ 9999 := by
  intro l h hd
  match l, h with
  | [], _ => decide
  | [a], _ => have ha := dig_range.1 (hd a (by simp)); rw [val_one]; omega
  | [a, b], _ => have ha := dig_range.1 (hd a (by simp)); have hb := dig_range.1 (hd b (by simp)); rw [val_two]; omega
  | [a, b, c], _ => have ha := dig_range.1 (hd a (by simp)); have hb := dig_range.1 (hd b (by simp)); have hc := dig_range.1 (hd c (by simp)); rw [val_three]; omega
  | [a, b, c, e], _ => have ha := dig_range.1 (hd a (by simp)); have hb := dig_range.1 (hd b (by simp)); have hc := dig_range.1 (hd c (by simp)); have he := dig_range.1 (hd e (by simp)); rw [val_four]; omega
/-- the digits at a place -/
def digs (s : ByteArray) (at_ : Nat) : List UInt8 := ((s.data.toList.drop at_).take 4).takeWhile isDig
theorem digs_all (s : ByteArray) (p : Nat) : ∀ b ∈ digs s p, isDig b = true := fun b hb => List.all_eq_true.1 List.all_takeWhile b hb
theorem digs_pre (s : ByteArray) (p : Nat) : digs s p <+: s.data.toList.drop p := (List.takeWhile_prefix _).trans (List.take_prefix _ _)
theorem digs_len (s : ByteArray) (p : Nat) : (digs s p).length ≤ 4 ∧ (digs s p).length ≤ s.size - p := by
  have h1 := (List.takeWhile_prefix (p := isDig) (l := (s.data.toList.drop p).take 4)).length_le
  have h2 := List.length_take_le 4 (s.data.toList.drop p)
  have h3 := (digs_pre s p).length_le
  rw [List.length_drop, len_data] at h3
  exact ⟨by unfold digs; omega, h3⟩
theorem digs_get (s : ByteArray) (p j : Nat) (h : j < (digs s p).length) : s.data.toList[p + j]? = some ((digs s p)[j]) := by
  have h1 := (digs_pre s p).getElem h
  have h2 : j < (s.data.toList.drop p).length := Nat.lt_of_lt_of_le h (digs_pre s p).length_le
  rw [h1, List.getElem_drop]
  rw [List.getElem?_eq_getElem (by rw [List.length_drop] at h2; omega)]
theorem digs_stop (s : ByteArray) (p : Nat) (h4 : (digs s p).length < 4) {b : UInt8} (hb : s.data.toList[p + (digs s p).length]? = some b) : isDig b = false := by
  obtain ⟨l, hl⟩ : ∃ l, s.data.toList.drop p = l := ⟨_, rfl⟩
  have hb' : l[(digs s p).length]? = some b := by rw [← hl, List.getElem?_drop]; exact hb
  unfold digs at h4 hb'
  rw [hl] at h4 hb'
  clear hb
  have h5 : (l.take 4)[((l.take 4).takeWhile isDig).length]? = some b := by rw [List.getElem?_take_of_lt h4]; exact hb'
  have key : ∀ (m : List UInt8), m[(m.takeWhile isDig).length]? = some b → isDig b = false := by
    intro m
    induction m with
    | nil => intro h; simp at h
    | cons x m ih =>
      intro h
      rw [List.takeWhile_cons] at h
      cases hx : isDig x with
      | true => rw [hx] at h; simp only [if_true, List.length_cons, List.getElem?_cons_succ] at h; exact ih h
      | false => rw [hx] at h; simp at h; rw [← h]; exact hx
  exact key _ h5
/-- what number answers -/
def numR (s : ByteArray) (p : Nat) : Res := match scanN (s.data.toList.drop p) with
  | none => (0, (p : Int), false)
  | some (n, r) => ((n : Int), ((s.size - r.length : Nat) : Int), true)
theorem head_at (s : ByteArray) (p : Nat) (h : digs s p ≠ []) : (digs s p).head? = s.data.toList[p]? := by
  have h0 : 0 < (digs s p).length := List.length_pos_iff.2 h
  have := digs_get s p 0 h0
  rw [Nat.add_zero] at this
  rw [this, List.head?_eq_getElem?, List.getElem?_eq_getElem h0]
theorem numR_eq (s : ByteArray) (p : Nat) (hp : p ≤ s.size) : numR s p = if digs s p = [] ∨ 255 < val (digs s p) ∨ (1 < (digs s p).length ∧ s.data.toList[p]? = some 48) then (0, (p : Int), false) else ((val (digs s p) : Int), ((p + (digs s p).length : Nat) : Int), true) := by
  unfold numR scanN
  simp only
  change (match (if digs s p = [] ∨ 255 < val (digs s p) ∨ (1 < (digs s p).length ∧ (digs s p).head? = some 48) then none else some (val (digs s p), (s.data.toList.drop p).drop (digs s p).length)) with
    | none => (0, (p : Int), false)
    | some (n, r) => ((n : Int), ((s.size - r.length : Nat) : Int), true)) = _
  by_cases h0 : digs s p = []
  · rw [if_pos (.inl h0), if_pos (.inl h0)]
  · rw [head_at s p h0]
    by_cases hc : digs s p = [] ∨ 255 < val (digs s p) ∨ (1 < (digs s p).length ∧ s.data.toList[p]? = some 48)
    · rw [if_pos hc, if_pos hc]
    · rw [if_neg hc, if_neg hc]
      have := (digs_len s p).2
      simp only [List.length_drop, len_data]
      congr 2
      omega
theorem numEnd_eq (s : ByteArray) (p j : Nat) (n : Nat) (hs : s.size ≤ 4294967296) (h : p + j ≤ s.size) : numEnd s p n ((p + j : Nat) : Int) =
    some (if j = 0 ∨ 255 < n ∨ (1 < j ∧ s.data.toList[p]? = some 48) then (0, (p : Int), false) else ((n : Int), ((p + j : Nat) : Int), true)) := by
  unfold numEnd
  by_cases h0 : j = 0
  · rw [if_pos (by omega), if_pos (.inl h0)]
  · rw [if_neg (by omega)]
    by_cases h1 : 255 < n
    · rw [if_pos (by omega), if_pos (.inr (.inl h1))]
    · rw [if_neg (by omega), w64 (by omega) (by omega)]
      by_cases h2 : 1 < j
      · rw [if_pos (by omega), if_pos (by omega), if_pos (by omega)]
        have hp : p < s.data.toList.length := by rw [len_data]; omega
        rw [bt_at (List.getElem?_eq_getElem hp), List.getElem?_eq_getElem hp]
        have e48 : (48 : UInt8).toNat = 48 := rfl
        by_cases h3 : s.data.toList[p] = 48
        · rw [if_pos (by rw [h3, e48]; rfl), if_pos (.inr (.inr ⟨h2, by rw [h3]⟩))]
        · rw [if_neg (fun e => h3 (UInt8.toNat_inj.1 (by rw [e48]; omega))), if_neg]
          rintro (h | h | h)
          · exact h0 h
          · exact h1 h
          · exact h3 (Option.some.inj h.2)
      · rw [if_neg (by omega), if_neg]
        rintro (h | h | h)
        · exact h0 h
        · exact h1 h
        · exact h2 h.1
theorem val_snoc (l : List UInt8) (j : Nat) (h : j < l.length) : val (l.take (j + 1)) = val (l.take j) * 10 + (l[j].toNat - 48) := by
  rw [List.take_add_one, List.getElem?_eq_getElem h]
  exact val_append _ _
theorem num_go (s : ByteArray) (p : Nat) (hs : s.size ≤ 4294967296) (hp : p ≤ s.size) : ∀ d j k, j + d = (digs s p).length → d < k →
    lagoonref06_number.l0 k s p (val ((digs s p).take j)) ((p + j : Nat) : Int) = some (numR s p) := by
  intro d
  have hl := digs_len s p
  induction d with
  | zero =>
    intro j k hj hk
    obtain ⟨k, rfl⟩ : ∃ m, k = m + 1 := ⟨k - 1, by omega⟩
    rw [List.take_of_length_le (by omega), num_l0, numEnd_eq s p j (val (digs s p)) hs (by omega), numR_eq s p hp]
    have hc : (j = 0 ∨ 255 < val (digs s p) ∨ (1 < j ∧ s.data.toList[p]? = some 48)) ↔ (digs s p = [] ∨ 255 < val (digs s p) ∨ (1 < (digs s p).length ∧ s.data.toList[p]? = some 48)) := by
      rw [show j = (digs s p).length by omega, List.length_eq_zero_iff]
    rw [show (digs s p).length = j by omega] at hc ⊢
    simp only [hc]
    by_cases h1 : p + j < s.size
    · rw [if_pos (by omega), if_pos (by omega)]
      have hlt : p + j < s.data.toList.length := h1
      rw [bt_at (List.getElem?_eq_getElem hlt), w64 (by omega) (by omega)]
      by_cases h4 : j < 4
      · have := digs_stop s p (by omega) (b := s.data.toList[p + j]) (by rw [show (digs s p).length = j by omega]; exact List.getElem?_eq_getElem hlt)
        have hn : ¬ (48 ≤ (s.data.toList[p + j]).toNat ∧ (s.data.toList[p + j]).toNat ≤ 57) := fun h => by rw [dig_range.2 h] at this; cases this
        by_cases h5 : ((s.data.toList[p + j]).toNat : Int) ≥ 48
        · rw [if_pos h5, if_neg (by omega)]
        · rw [if_neg h5]
      · rw [if_neg (c := ((p + j : Nat) : Int) - (p : Int) < 4) (by omega)]
        simp only [ite_self]
    · rw [if_neg (by omega)]
  | succ d ih =>
    intro j k hj hk
    obtain ⟨k, rfl⟩ : ∃ m, k = m + 1 := ⟨k - 1, by omega⟩
    have hlt : j < (digs s p).length := by omega
    have hg := digs_get s p j hlt
    have hd := dig_range.1 (digs_all s p _ (List.getElem_mem hlt))
    have hv := val_le ((digs s p).take j) (by rw [List.length_take]; omega) (fun b hb => digs_all s p b (List.mem_of_mem_take hb))
    rw [num_l0, if_pos (by omega), if_pos (by omega), bt_at hg, if_pos (by omega), if_pos (by omega), w64 (x := ((p + j : Nat) : Int) - (p : Int)) (by omega) (by omega), if_pos (by omega)]
    rw [w64 (x := 10 * _) (by omega) (by omega), w64 (x := _ + _ % 256) (by omega) (by omega), w64 (x := ((p + j : Nat) : Int) + 1) (by omega) (by omega)]
    rw [← ih (j + 1) k (by omega) (by omega), val_snoc _ _ hlt]
    congr 1
    omega
theorem num_f (s : ByteArray) (p : Nat) (hs : s.size ≤ 4294967296) (hp : p ≤ s.size) (k : Nat) (hk : 5 ≤ k) : lagoonref06_number.f k s p = some (numR s p) := by
  have hl := digs_len s p
  have := num_go s p hs hp (digs s p).length 0 k (by omega) (by omega)
  unfold lagoonref06_number.f
  exact this
/-- what is left is an end of the text -/
theorem scanN_suffix {l r : List UInt8} {n : Nat} (h : scanN l = some (n, r)) : r <:+ l := by
  rw [(scanN_some h).1]; exact List.suffix_append _ _
theorem drop_suffix {s : ByteArray} {r : List UInt8} (h : r <:+ s.data.toList) : s.data.toList.drop (s.size - r.length) = r ∧ r.length ≤ s.size := by
  obtain ⟨t, ht⟩ := h
  have hl := congrArg List.length ht
  rw [List.length_append, len_data] at hl
  refine ⟨?_, by omega⟩
  rw [← ht, show s.size - r.length = t.length by omega, List.drop_left]
theorem num_at (s : ByteArray) (r : List UInt8) (hs : s.size ≤ 4294967296) (hr : r <:+ s.data.toList) (k : Nat) (hk : 5 ≤ k) : lagoonref06_number.f k s ((s.size - r.length : Nat) : Int) =
    some (match scanN r with
      | none => (0, ((s.size - r.length : Nat) : Int), false)
      | some (n, r') => ((n : Int), ((s.size - r'.length : Nat) : Int), true)) := by
  obtain ⟨h1, h2⟩ := drop_suffix hr
  rw [num_f s _ hs (by omega) k hk]
  unfold numR
  rw [h1]
theorem byte_at (s : ByteArray) (b : UInt8) (r : List UInt8) (hr : (b :: r) <:+ s.data.toList) : bt s ((s.size - (b :: r).length : Nat) : Int) = (b.toNat : Int) ∧ s.size - (b :: r).length < s.size ∧ s.size - (b :: r).length + 1 = s.size - r.length := by
  obtain ⟨h1, h2⟩ := drop_suffix hr
  have h3 : s.data.toList[s.size - (b :: r).length]? = some b := by rw [← List.head?_drop, h1]; rfl
  refine ⟨bt_at h3, ?_, ?_⟩ <;> (simp only [List.length_cons] at h2 ⊢; omega)
theorem addr_step (s : ByteArray) (hs : s.size ≤ 4294967296) (r : List UInt8) (hr : r <:+ s.data.toList) (x m : Int) (hm : 0 < m ∧ m < 4) (k : Nat) (hk : 5 ≤ k) :
    lagoonref06_Address.l0 (k + 2) s x ((s.size - r.length : Nat) : Int) m = (match scanD r with
      | none => some (0, 0, false)
      | some (n, r') => lagoonref06_Address.l0 k s (wrap64 ((wrap64 (x * 256)) + (n : Int))) ((s.size - r'.length : Nat) : Int) (wrap64 (m + 1))) := by
  rw [lagoonref06_Address.l0, if_pos hm.2, if_pos hm.1]
  cases r with
  | nil =>
    rw [if_pos (by simp), lagoonref06_Address.j1, if_pos rfl]
    rfl
  | cons b r' =>
    obtain ⟨hb, hlt, hnext⟩ := byte_at s b r' hr
    rw [if_neg (by omega), if_pos (by omega), if_pos (by omega), hb]
    by_cases h46 : b = 46
    · subst h46
      have e : (((46 : UInt8).toNat : Int) != 46) = false := rfl
      rw [e, lagoonref06_Address.j1, if_neg (by simp), w64 (x := ((s.size - ((46 : UInt8) :: r').length : Nat) : Int) + 1) (by omega) (by omega)]
      rw [show ((s.size - ((46 : UInt8) :: r').length : Nat) : Int) + 1 = ((s.size - r'.length : Nat) : Int) by omega, num_at s r' hs ((List.suffix_cons _ _).trans hr) k hk, Option.bind_some]
      show _ = (match scanN r' with
        | none => some (0, 0, false)
        | some (n, r') => lagoonref06_Address.l0 k s (wrap64 ((wrap64 (x * 256)) + (n : Int))) ((s.size - r'.length : Nat) : Int) (wrap64 (m + 1)))
      cases hsn : scanN r' with
      | none => rw [if_neg (by simp)]
      | some q => obtain ⟨n, r2⟩ := q; rw [if_pos rfl]
    · have e : ((b.toNat : Int) != 46) = true := by
        rw [bne_iff_ne]
        intro h
        exact h46 (UInt8.toNat_inj.1 (by have e46 : (46 : UInt8).toNat = 46 := rfl; omega))
      have e2 : scanD (b :: r') = none := by
        unfold scanD
        split
        · rename_i h; simp at h; exact absurd h.1 h46
        · rfl
      rw [e, lagoonref06_Address.j1, if_pos rfl, e2]
/-- what Address answers -/
def addrR (s : ByteArray) : Res := match scanA s.data.toList with
  | none => (0, 0, false)
  | some (q, r) => ((allQ q : Int), ((s.size - r.length : Nat) : Int), true)
theorem addr_f (s : ByteArray) (hs : s.size ≤ 4294967296) (k : Nat) (hk : 13 ≤ k) : lagoonref06_Address.f k s = some (addrR s) := by
  obtain ⟨j, rfl⟩ : ∃ j, k = j + 1 + 2 + 2 + 2 + 1 := ⟨k - 8, by omega⟩
  unfold lagoonref06_Address.f addrR scanA
  rw [lagoonref06_Address.l0, if_pos (by omega), if_neg (by omega)]
  have h0 := num_at s s.data.toList hs List.suffix_rfl (j + 1 + 2 + 2 + 2) (by omega)
  rw [len_data, Nat.sub_self] at h0
  rw [show (0 : Int) = ((0 : Nat) : Int) from rfl, h0, Option.bind_some]
  cases h1 : scanN s.data.toList with
  | none => rw [if_neg (by simp)]; rfl
  | some x =>
    obtain ⟨n1, r1⟩ := x
    have b1 := (scanN_some h1).2.1
    have s1 := scanN_suffix h1
    simp only
    rw [if_pos (by simp), w64 (x := _ * 256) (by omega) (by omega), w64 (x := _ + _) (by omega) (by omega), w64 (x := _ + 1) (by omega) (by omega)]
    rw [addr_step s hs r1 s1 _ _ (by omega) _ (by omega)]
    simp only [Option.bind_some]
    cases h2 : scanD r1 with
    | none => rfl
    | some x =>
      obtain ⟨n2, r2⟩ := x
      have b2 := (scanD_some h2).2.1
      have s2 : r2 <:+ s.data.toList := by
        have := (scanD_some h2).1
        exact (show r2 <:+ r1 by rw [this]; exact (List.suffix_append _ _).trans (List.suffix_cons _ _)).trans s1
      simp only [Option.bind_some]
      rw [w64 (x := _ * 256) (by omega) (by omega), w64 (x := _ + (n2 : Int)) (by omega) (by omega), w64 (x := _ + 1) (by omega) (by omega)]
      rw [addr_step s hs r2 s2 _ _ (by omega) _ (by omega)]
      cases h3 : scanD r2 with
      | none => rfl
      | some x =>
        obtain ⟨n3, r3⟩ := x
        have b3 := (scanD_some h3).2.1
        have s3 : r3 <:+ s.data.toList := by
          have := (scanD_some h3).1
          exact (show r3 <:+ r2 by rw [this]; exact (List.suffix_append _ _).trans (List.suffix_cons _ _)).trans s2
        simp only [Option.bind_some]
        rw [w64 (x := _ * 256) (by omega) (by omega), w64 (x := _ + (n3 : Int)) (by omega) (by omega), w64 (x := _ + 1) (by omega) (by omega)]
        rw [addr_step s hs r3 s3 _ _ (by omega) _ (by omega)]
        cases h4 : scanD r3 with
        | none => rfl
        | some x =>
          obtain ⟨n4, r4⟩ := x
          have b4 := (scanD_some h4).2.1
          simp only [Option.bind_some]
          rw [w64 (x := _ * 256) (by omega) (by omega), w64 (x := _ + (n4 : Int)) (by omega) (by omega), w64 (x := _ + 1) (by omega) (by omega)]
          rw [lagoonref06_Address.l0, if_neg (by omega)]
          refine congrArg some (Prod.ext ?_ rfl)
          show _ = ((allQ (n1, n2, n3, n4) : Nat) : Int)
          unfold allQ
          dsimp only
          omega
theorem scanA_suffix {l r : List UInt8} {q : Quad} (h : scanA l = some (q, r)) : r <:+ l := by
  rw [(scanA_some h).1]; exact List.suffix_append _ _
/-- what Range answers -/
def rangeR (s : ByteArray) : Res := match rangeB s.data.toList with
  | none => (0, 0, false)
  | some (q, n) => ((allQ q : Int), (n : Int), true)
theorem range_f (s : ByteArray) (hs : s.size ≤ 4294967296) (k : Nat) (hk : 13 ≤ k) : lagoonref06_Range.f k s = some (rangeR s) := by
  unfold lagoonref06_Range.f rangeR rangeB
  rw [addr_f s hs k hk, Option.bind_some]
  unfold addrR
  cases h1 : scanA s.data.toList with
  | none => rw [if_neg (by simp)]
  | some x =>
    obtain ⟨q, r⟩ := x
    have sr := scanA_suffix h1
    simp only
    rw [if_pos (by simp)]
    cases r with
    | nil => rw [if_pos (by simp)]; rfl
    | cons b r' =>
      obtain ⟨hb, hlt, hnext⟩ := byte_at s b r' sr
      rw [if_neg (by omega), if_pos (by omega), if_pos (by omega), hb]
      by_cases h47 : b = 47
      · subst h47
        have e : (((47 : UInt8).toNat : Int) = 47) := rfl
        rw [if_pos e, w64 (x := _ + 1) (by omega) (by omega)]
        rw [show ((s.size - ((47 : UInt8) :: r').length : Nat) : Int) + 1 = ((s.size - r'.length : Nat) : Int) by omega, num_at s r' hs ((List.suffix_cons _ _).trans sr) k (by omega), Option.bind_some]
        show _ = some (match (match scanN r' with
          | some (n, []) => if n ≤ 32 then some (q, n) else none
          | _ => none) with
          | none => ((0 : Int), (0 : Int), false)
          | some (q, n) => ((allQ q : Int), (n : Int), true))
        cases hsn : scanN r' with
        | none => rw [if_neg (by simp)]
        | some y =>
          obtain ⟨n, r2⟩ := y
          simp only
          rw [if_pos (by simp)]
          have h3 := drop_suffix ((scanN_suffix hsn).trans ((List.suffix_cons _ _).trans sr))
          cases r2 with
          | nil =>
            rw [if_pos (by simp)]
            by_cases h32 : n ≤ 32
            · rw [if_neg (by omega)]; simp [h32]
            · rw [if_pos (by omega)]; simp [h32]
          | cons c r3 =>
            rw [if_neg (by have := h3.2; simp only [List.length_cons] at this ⊢; omega)]
      · rw [if_neg (fun h => h47 (UInt8.toNat_inj.1 (by have e47 : (47 : UInt8).toNat = 47 := rfl; omega)))]
        split
        · rfl
        · rename_i h; split at h
          · rename_i h5; simp at h5
          · rename_i h5; simp at h5; exact absurd h5.2.1 h47
          · cases h
theorem name_l0 (k : Nat) (s : ByteArray) (i : Nat) (b : UInt8) (hs : s.size ≤ 4294967296) (h : s.data.toList[i]? = some b) :
    lagoonref06_name.l0 (k + 1) s (i : Int) = if okB b = true then lagoonref06_name.l0 k s ((i + 1 : Nat) : Int) else some false := by
  have hi : i < s.size := (List.getElem?_eq_some_iff.1 h).1
  have hb := bt_at h
  rw [lagoonref06_name.l0, if_pos (by omega), if_pos (by omega), hb, w64 (x := (i : Int) + 1) (by omega) (by omega)]
  rw [show ((i : Int) + 1) = ((i + 1 : Nat) : Int) by omega]
  generalize lagoonref06_name.l0 k s ((i + 1 : Nat) : Int) = X
  by_cases ho : okB b = true
  · rw [if_pos ho]
    unfold okB okC at ho
    simp only [decide_eq_true_eq] at ho
    repeat' split
    all_goals first | rfl | (exfalso; omega)
  · rw [if_neg ho]
    unfold okB okC at ho
    simp only [decide_eq_true_eq] at ho
    repeat' split
    all_goals first | rfl | (exfalso; omega)
theorem name_go (s : ByteArray) (hs : s.size ≤ 4294967296) : ∀ d i k, i + d = s.size → d < k → (∀ b ∈ s.data.toList.take i, okB b = true) → lagoonref06_name.l0 k s (i : Int) = some (nameB s.data.toList) := by
  intro d
  induction d with
  | zero =>
    intro i k hi hk ha
    obtain ⟨k, rfl⟩ : ∃ m, k = m + 1 := ⟨k - 1, by omega⟩
    rw [lagoonref06_name.l0, if_neg (by omega)]
    rw [List.take_of_length_le (by rw [len_data]; omega)] at ha
    unfold nameB
    rw [List.all_eq_true.2 ha, len_data]
    by_cases h1 : (s.size : Int) ≥ 1
    · rw [if_pos h1, decide_eq_true (show 1 ≤ s.size by omega)]
      congr 1
      simp only [Bool.true_and]
      exact decide_eq_decide.2 (by omega)
    · rw [if_neg h1, decide_eq_false (show ¬ 1 ≤ s.size by omega)]
      rfl
  | succ d ih =>
    intro i k hi hk ha
    obtain ⟨k, rfl⟩ : ∃ m, k = m + 1 := ⟨k - 1, by omega⟩
    have hlt : i < s.data.toList.length := by rw [len_data]; omega
    rw [name_l0 k s i _ hs (List.getElem?_eq_getElem hlt)]
    by_cases ho : okB s.data.toList[i] = true
    · rw [if_pos ho]
      refine ih (i + 1) k (by omega) (by omega) fun b hb => ?_
      rw [List.take_add_one, List.getElem?_eq_getElem hlt] at hb
      rcases List.mem_append.1 hb with hb | hb
      · exact ha b hb
      · rw [List.mem_singleton.1 hb]; exact ho
    · rw [if_neg ho]
      unfold nameB
      have : s.data.toList.all okB = false := by
        rw [Bool.eq_false_iff]
        intro h
        exact ho (List.all_eq_true.1 h _ (List.getElem_mem hlt))
      rw [this]; rfl
theorem name_f (s : ByteArray) (hs : s.size ≤ 4294967296) (k : Nat) (hk : s.size < k) : lagoonref06_name.f k s = some (nameB s.data.toList) := by
  have := name_go s hs s.size 0 k (by omega) hk (fun b hb => by simp at hb)
  exact this
theorem addrB_addrR (s : ByteArray) : (addrB s.data.toList).isSome = ((addrR s).2.2 && ((addrR s).2.1 == (s.size : Int))) := by
  unfold addrB addrR
  cases h : scanA s.data.toList with
  | none => rfl
  | some x =>
    obtain ⟨q, r⟩ := x
    have h3 := drop_suffix (scanA_suffix h)
    cases r with
    | nil => simp
    | cons b r =>
      have := h3.2
      simp only [List.length_cons] at this ⊢
      have e : (((s.size - (r.length + 1) : Nat) : Int) == (s.size : Int)) = false := beq_eq_false_iff_ne.2 (by omega)
      rw [e]; rfl
theorem toL (s : ByteArray) : s.toList = s.data.toList := Lib.toList_data s
theorem entry_f (s m : ByteArray) (hm : m.size ≤ 4294967296) (k : Nat) (hk : m.size + 13 ≤ k) : lagoonref06_OfEntry.f k s m = some (entryB s.data.toList m.data.toList) := by
  unfold lagoonref06_OfEntry.f entryB
  rw [toL, toL, range_f m hm k (by omega), name_f m hm k (by omega)]
  obtain ⟨i1, i2, i3, i4⟩ := @schNo_name s.data.toList
  by_cases h1 : s.data.toList = sWorld
  · rw [if_pos h1, i1.2 h1]; rfl
  rw [if_neg h1]
  by_cases h2 : s.data.toList = sIp
  · rw [if_pos h2, i2.2 h2, Option.bind_some]
    unfold rangeR
    show _ = some ((rangeB m.data.toList).isSome)
    cases rangeB m.data.toList with
    | none => rfl
    | some x => rfl
  rw [if_neg h2]
  by_cases h3 : s.data.toList = sName
  · rw [if_pos h3, i3.2 h3]; rfl
  rw [if_neg h3]
  by_cases h4 : s.data.toList = sAuth
  · rw [if_pos h4, i4.2 h4]; rfl
  rw [if_neg h4]
  have h5 := schNo_le s.data.toList
  have : schNo s.data.toList = 0 := by
    have n1 : ¬ schNo s.data.toList = 1 := fun e => h1 (i1.1 e)
    have n2 : ¬ schNo s.data.toList = 2 := fun e => h2 (i2.1 e)
    have n3 : ¬ schNo s.data.toList = 3 := fun e => h3 (i3.1 e)
    have n4 : ¬ schNo s.data.toList = 4 := fun e => h4 (i4.1 e)
    omega
  rw [this]; rfl
theorem client_f (s m : ByteArray) (hm : m.size ≤ 4294967296) (k : Nat) (hk : m.size + 13 ≤ k) : lagoonref06_OfClient.f k s m = some (clientB s.data.toList m.data.toList) := by
  unfold lagoonref06_OfClient.f clientB
  rw [toL, addr_f m hm k (by omega), name_f m hm k (by omega)]
  obtain ⟨i1, i2, i3, i4⟩ := @schNo_name s.data.toList
  by_cases h2 : s.data.toList = sIp
  · rw [if_pos h2, i2.2 h2, Option.bind_some]
    show _ = some ((addrB m.data.toList).isSome)
    rw [addrB_addrR]
    cases h : (addrR m).2.2 with
    | false => rw [if_neg (by simp)]; rfl
    | true => rw [if_pos rfl]; rfl
  rw [if_neg h2]
  by_cases h3 : s.data.toList = sName
  · rw [if_pos h3, i3.2 h3]; rfl
  rw [if_neg h3]
  have n2 := fun e => h2 (i2.1 e)
  have n3 := fun e => h3 (i3.1 e)
  unfold clientN
  split
  · rename_i e; exact absurd e n2
  · rename_i e; exact absurd e n3
  · rfl
end Go.Proofs.YtgjgafibipepeaaGreatDoor.Q
