import Derived.Test.YtgjgafibipepeaaDoorP1
import Derived.Lib.SplitLaws
import Derived.Lib.IndexMore
import Derived.Lib.IndexBytes
namespace Go.Proofs.YtgjgafibipepeaaDoor.Q
open Go.Lib
set_option linter.unusedVariables false
set_option linter.unusedSimpArgs false

/-! A TEXT, CUT AT A BYTE -/
def splitC (c : UInt8) : List UInt8 → List (List UInt8)
  | [] => [[]]
  | b :: l => if b = c then [] :: splitC c l else (match splitC c l with
    | h :: t => (b :: h) :: t
    | [] => [[b]])
theorem splitC_ne (c : UInt8) (l : List UInt8) : splitC c l ≠ [] := by
  cases l with
  | nil => simp [splitC]
  | cons b l => unfold splitC; split; simp; split <;> simp
theorem splitC_none {c : UInt8} {a : List UInt8} (h : c ∉ a) : splitC c a = [a] := by
  induction a with
  | nil => rfl
  | cons b a ih =>
    rw [List.mem_cons, not_or] at h
    unfold splitC
    rw [if_neg (fun e => h.1 e.symm), ih h.2]
theorem splitC_hit {c : UInt8} {a r : List UInt8} (h : c ∉ a) : splitC c (a ++ c :: r) = a :: splitC c r := by
  induction a with
  | nil => simp [splitC]
  | cons b a ih =>
    rw [List.mem_cons, not_or] at h
    rw [List.cons_append, splitC, if_neg (fun e => h.1 e.symm), ih h.2]
theorem byte_cases (l : List UInt8) (c : UInt8) : (c ∉ l ∧ indexByte l c = -1) ∨ ∃ a r, l = a ++ c :: r ∧ c ∉ a ∧ indexByte l c = a.length := by
  induction l with
  | nil => exact .inl ⟨by simp, rfl⟩
  | cons b l ih =>
    by_cases hb : b = c
    · subst hb
      exact .inr ⟨[], l, rfl, by simp, by simp [indexByte]⟩
    · have hb' : (b == c) = false := beq_eq_false_iff_ne.2 hb
      rcases ih with ⟨h1, h2⟩ | ⟨a, r, h1, h2, h3⟩
      · exact .inl ⟨by rw [List.mem_cons, not_or]; exact ⟨fun e => hb e.symm, h1⟩, by simp [indexByte, hb', h2]⟩
      · refine .inr ⟨b :: a, r, by rw [h1]; rfl, by rw [List.mem_cons, not_or]; exact ⟨fun e => hb e.symm, h2⟩, ?_⟩
        have h4 : ¬ ((a.length : Int) == -1) = true := fun e => by have := beq_iff_eq.1 e; omega
        unfold indexByte
        rw [hb', h3]
        simp only [Bool.false_eq_true, if_false]
        rw [if_neg h4]
        simp
theorem splitK_one (c : UInt8) : ∀ (k : Nat) (l : List UInt8), l.count c ≤ k → splitK [c] 0 k l = splitC c l
  | 0, l, h => by
    have : c ∉ l := List.count_eq_zero.1 (by omega)
    rw [splitC_none this]; rfl
  | k + 1, l, h => by
    unfold splitK
    rw [index_one]
    rcases byte_cases l c with ⟨h1, h2⟩ | ⟨a, r, rfl, h2, h3⟩
    · rw [h2, splitC_none h1]; rfl
    · rw [h3]
      have h4 : ¬ ((a.length : Int) == -1) = true := fun e => by have := beq_iff_eq.1 e; omega
      have e1 : List.take ((a.length : Int).toNat + 0) (a ++ c :: r) = a := by simp
      have e2 : List.drop ((a.length : Int).toNat + [c].length) (a ++ c :: r) = r := by simp
      rw [if_neg h4, splitC_hit h2, e1, e2, splitK_one c k r (by
        rw [List.count_append, List.count_cons_self] at h
        have := List.count_eq_zero.2 h2
        omega)]
theorem parts_one (s : ByteArray) (c : UInt8) : (splitB ⟨#[c]⟩ 0 (countB s ⟨#[c]⟩) s).map (·.data.toList) = splitC c s.data.toList := by
  rw [splitB_data]
  have hc : countB s ⟨#[c]⟩ = s.data.toList.count c := count_one c s.data.toList
  exact splitK_one c _ _ (by rw [hc]; exact Nat.le_refl _)
theorem not_dig_mem {c : UInt8} (hc : isDig c = false) (k : Nat) : c ∉ decDigits k := fun h => by
  have := dec_digits k c h
  rw [hc] at this; cases this
/-- the parts of an address -/
def addrP : List (List UInt8) → Option Quad
  | [a, b, c, d] => (numB 255 a).bind fun a => (numB 255 b).bind fun b => (numB 255 c).bind fun c => (numB 255 d).bind fun d => some (a, b, c, d)
  | _ => none
theorem splitC_quad (q : Quad) : splitC 46 (quadT q) = [decDigits q.1, decDigits q.2.1, decDigits q.2.2.1, decDigits q.2.2.2] := by
  have h : isDig 46 = false := rfl
  unfold quadT
  rw [splitC_hit (not_dig_mem h _), splitC_hit (not_dig_mem h _), splitC_hit (not_dig_mem h _), splitC_none (not_dig_mem h _)]
theorem numB_dec {k most : Nat} (h : k ≤ most) : numB most (decDigits k) = some k := numB_some.2 ⟨rfl, h⟩
theorem splitC_two {c : UInt8} {l a b : List UInt8} {t : List (List UInt8)} (h : splitC c l = a :: b :: t) : ∃ r, l = a ++ c :: r ∧ splitC c r = b :: t := by
  induction l generalizing a b t with
  | nil => simp [splitC] at h
  | cons x l ih =>
    unfold splitC at h
    split at h
    · rename_i hx
      subst hx
      simp only [List.cons.injEq] at h
      obtain ⟨rfl, h⟩ := h
      exact ⟨l, rfl, h⟩
    · split at h
      · rename_i h' t' hs
        simp only [List.cons.injEq] at h
        obtain ⟨rfl, rfl⟩ := h
        obtain ⟨r, rfl, hr⟩ := ih hs
        exact ⟨r, rfl, hr⟩
      · simp at h
theorem splitC_last {c : UInt8} {l a : List UInt8} (h : splitC c l = [a]) : l = a := by
  induction l generalizing a with
  | nil => simp [splitC] at h; exact h.symm
  | cons x l ih =>
    unfold splitC at h
    split at h
    · simp only [List.cons.injEq] at h
      exact absurd h.2 (splitC_ne _ _)
    · split at h
      · rename_i h' t' hs
        simp only [List.cons.injEq] at h
        obtain ⟨rfl, rfl⟩ := h
        rw [ih hs]
      · rename_i hs; exact absurd hs (splitC_ne _ _)
theorem addr_split (l : List UInt8) : addrP (splitC 46 l) = addrB l := by
  apply Option.ext
  intro q
  rw [addrB_some]
  constructor
  · intro h
    obtain ⟨ps, hps⟩ : ∃ ps, splitC 46 l = ps := ⟨_, rfl⟩
    rw [hps] at h
    unfold addrP at h
    split at h
    · rename_i a b c d
      obtain ⟨na, ha, h⟩ := Option.bind_eq_some_iff.1 h
      obtain ⟨nb, hb, h⟩ := Option.bind_eq_some_iff.1 h
      obtain ⟨nc, hc, h⟩ := Option.bind_eq_some_iff.1 h
      obtain ⟨nd, hd, h⟩ := Option.bind_eq_some_iff.1 h
      cases h
      obtain ⟨rfl, ha'⟩ := numB_some.1 ha
      obtain ⟨rfl, hb'⟩ := numB_some.1 hb
      obtain ⟨rfl, hc'⟩ := numB_some.1 hc
      obtain ⟨rfl, hd'⟩ := numB_some.1 hd
      obtain ⟨r1, rfl, h1⟩ := splitC_two hps
      obtain ⟨r2, rfl, h2⟩ := splitC_two h1
      obtain ⟨r3, rfl, h3⟩ := splitC_two h2
      have := splitC_last h3
      subst this
      exact ⟨rfl, ha', hb', hc', hd'⟩
    · cases h
  · rintro ⟨rfl, h1, h2, h3, h4⟩
    rw [splitC_quad]
    simp [addrP, numB_dec h1, numB_dec h2, numB_dec h3, numB_dec h4]
/-- a range, out of what Cut gives -/
theorem cut_cases (l : List UInt8) (c : UInt8) : (c ∉ l ∧ cut l [c] = (l, [], false)) ∨ ∃ a r, l = a ++ c :: r ∧ c ∉ a ∧ cut l [c] = (a, r, true) := by
  unfold cut
  rw [index_one]
  rcases byte_cases l c with ⟨h1, h2⟩ | ⟨a, r, rfl, h2, h3⟩
  · refine .inl ⟨h1, ?_⟩
    rw [h2, if_neg (by decide)]
  · refine .inr ⟨a, r, rfl, h2, ?_⟩
    rw [h3, if_pos (by omega)]
    simp
theorem slash_quad (q : Quad) : (47 : UInt8) ∉ quadT q := by
  have h : isDig 47 = false := rfl
  unfold quadT
  simp [not_dig_mem h]
theorem range_plain {l : List UInt8} (h : (47 : UInt8) ∉ l) : rangeB l = (addrB l).map (fun q => (q, 32)) := by
  apply Option.ext
  rintro ⟨q, n⟩
  rw [rangeB_some, Option.map_eq_some_iff]
  constructor
  · rintro ⟨hs, ⟨rfl, rfl⟩ | ⟨rfl, _⟩⟩
    · exact ⟨q, addrB_some.2 ⟨rfl, hs⟩, rfl⟩
    · simp at h
  · rintro ⟨q', h1, h2⟩
    cases h2
    obtain ⟨rfl, hs⟩ := addrB_some.1 h1
    exact ⟨hs, .inl ⟨rfl, rfl⟩⟩
theorem range_cut {a r : List UInt8} (h : (47 : UInt8) ∉ a) : rangeB (a ++ 47 :: r) = (addrB a).bind (fun q => (numB 32 r).map (fun n => (q, n))) := by
  apply Option.ext
  rintro ⟨q, n⟩
  rw [rangeB_some, Option.bind_eq_some_iff]
  constructor
  · rintro ⟨hs, ⟨e, _⟩ | ⟨e, hn⟩⟩
    · have := slash_quad q
      rw [← e] at this
      simp at this
    · have e1 := congrArg (splitC 47) e
      rw [splitC_hit h, splitC_hit (slash_quad q), List.cons.injEq] at e1
      obtain ⟨rfl, _⟩ := e1
      rw [List.append_right_inj] at e
      simp only [List.cons.injEq, true_and] at e
      subst e
      exact ⟨q, addrB_some.2 ⟨rfl, hs⟩, by rw [numB_dec hn]; rfl⟩
  · rintro ⟨q', h1, h2⟩
    obtain ⟨n', h3, h4⟩ := Option.map_eq_some_iff.1 h2
    cases h4
    obtain ⟨rfl, hs⟩ := addrB_some.1 h1
    obtain ⟨rfl, hn⟩ := numB_some.1 h3
    exact ⟨hs, .inr ⟨rfl, hn⟩⟩
end Go.Proofs.YtgjgafibipepeaaDoor.Q
