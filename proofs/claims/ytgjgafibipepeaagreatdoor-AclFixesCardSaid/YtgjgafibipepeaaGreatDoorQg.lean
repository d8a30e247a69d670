import Derived.Test.YtgjgafibipepeaaGreatDoorC2
import Derived.Test.YtgjgafibipepeaaGreatDoorC3
namespace Go.Proofs.YtgjgafibipepeaaGreatDoor.Q
open Go.RowKit Go.Proofs.YtgjgafibipepeaaGreatDoorW.PrintWords Go.Lib
open Go.Proofs.YtgjgafibipepeaaGreatDoor.Pr
set_option linter.unusedVariables false
set_option linter.unusedSimpArgs false
/-! THE REFERENCE: FIX -/
open Classical in
theorem put_go (acc : List S41) (x : S41) (hl : acc.length ≤ 1000) : ∀ d j k, j + d = acc.length → d < k →
    lagoonref06_put.l0 k acc (j : Int) x.f0 x.f1.f0 x.f1.f1 = some (if x ∈ acc.drop j then acc else acc ++ [x]) := by
  intro d
  induction d with
  | zero =>
    intro j k hj hk
    obtain ⟨k, rfl⟩ : ∃ m, k = m + 1 := ⟨k - 1, by omega⟩
    rw [lagoonref06_put.l0, if_neg (by omega), if_pos (by omega), List.drop_of_length_le (by omega), if_neg List.not_mem_nil]
  | succ d ih =>
    intro j k hj hk
    obtain ⟨k, rfl⟩ : ∃ m, k = m + 1 := ⟨k - 1, by omega⟩
    have hlt : j < acc.length := by omega
    rw [lagoonref06_put.l0, if_pos (by omega), if_pos (by omega), rdE hlt, List.drop_eq_getElem_cons hlt]
    have he : ((acc[j].f0 == x.f0 && ((acc[j].f1.f0.toList == x.f1.f0.toList) && (acc[j].f1.f1.toList == x.f1.f1.toList))) = true) ↔ x = acc[j] := by
      have := @eqE_iff acc[j] x
      unfold eqE at this
      rw [this]; exact eq_comm
    by_cases h : x = acc[j]
    · rw [if_pos (he.2 h), if_pos (by rw [← h]; exact List.mem_cons_self)]
    · rw [if_neg (fun e => h (he.1 e)), w64 (by omega) (by omega)]
      have := ih (j + 1) k (by omega) (by omega)
      rw [show ((j : Int) + 1) = ((j + 1 : Nat) : Int) by omega, this]
      simp only [List.mem_cons, h, false_or]
theorem put_f (acc : List S41) (x : S41) (hl : acc.length ≤ 1000) (k : Nat) (hk : 1001 ≤ k) : lagoonref06_put.f k acc x.f0 x.f1.f0 x.f1.f1 = some (putB acc x) := by
  have := put_go acc x hl acc.length 0 k (by omega) (by omega)
  rw [List.drop_zero] at this
  unfold lagoonref06_put.f
  rw [show (0 : Int) = ((0 : Nat) : Int) from rfl, this]
  by_cases h : x ∈ acc
  · rw [if_pos h, putB_mem h]
  · rw [if_neg h, putB_new h]
theorem putAll_len (q : Int) : ∀ (who : List S39) (acc : List S41), (putAll acc q who).length ≤ acc.length + who.length
  | [], acc => Nat.le_refl _
  | i :: r, acc => by
    unfold putAll
    rw [List.foldl_cons]
    have h1 := putAll_len q r (if namedB i = true then putB acc ⟨q, i⟩ else acc)
    unfold putAll at h1
    refine Nat.le_trans h1 ?_
    split
    · have := putB_le acc ⟨q, i⟩; simp only [List.length_cons]; omega
    · simp only [List.length_cons]; omega
theorem fx_l1 (l : List S41) (who : List S39) (hl : l.length ≤ 4) (hw : who.length ≤ 4) {i : Nat} (hi : i < l.length) : ∀ d j (c : Nat) acc k, j + d = who.length → acc.length + d ≤ 900 → 1001 ≤ k → c + d ≤ 100 →
    lagoonref06_Fix.l1 (k + d + 1) l who acc i c j = if c = 0 ∧ (who.drop j).any namedB = false then some ([], 60) else lagoonref06_Fix.l0 k l who (putAll acc l[i].f0 (who.drop j)) ((i + 1 : Nat) : Int) := by
  intro d
  induction d with
  | zero =>
    intro j c acc k hj ha hk hc
    rw [lagoonref06_Fix.l1, if_neg (by omega), List.drop_of_length_le (by omega)]
    by_cases h : c = 0
    · rw [if_pos (by omega), if_pos ⟨h, rfl⟩]
    · rw [if_neg (by omega), if_neg (fun e => h e.1), w64 (by omega) (by omega)]
      rfl
  | succ d ih =>
    intro j c acc k hj ha hk hc
    have hlt : j < who.length := by omega
    rw [show k + (d + 1) + 1 = (k + d + 1) + 1 by omega, lagoonref06_Fix.l1, if_pos (by omega), if_pos (by omega), rdI hlt, rdE hi, List.drop_eq_getElem_cons hlt]
    have hput : putAll acc l[i].f0 (who[j] :: who.drop (j + 1)) = putAll (if namedB who[j] = true then putB acc ⟨l[i].f0, who[j]⟩ else acc) l[i].f0 (who.drop (j + 1)) := rfl
    by_cases hn : namedB who[j] = true
    · have h1 : who[j].f0.toList = [110, 97, 109, 101] := beq_iff_eq.1 hn
      rw [if_pos h1, if_pos (by omega), if_pos (by omega)]
      have hp := put_f acc ⟨l[i].f0, who[j]⟩ (by omega) (k + d + 1) (by omega)
      dsimp only at hp
      rw [hp, Option.bind_some, w64 (x := (c : Int) + 1) (by omega) (by omega), w64 (x := (j : Int) + 1) (by omega) (by omega)]
      have hl2 := putB_le acc ⟨l[i].f0, who[j]⟩
      have := ih (j + 1) (c + 1) (putB acc ⟨l[i].f0, who[j]⟩) k (by omega) (by omega) hk
      rw [show ((c : Int) + 1) = ((c + 1 : Nat) : Int) by omega, show ((j : Int) + 1) = ((j + 1 : Nat) : Int) by omega]
      by_cases hc2 : c + 1 + d ≤ 100
      · rw [this hc2, if_neg (fun e => by omega), hput, if_pos hn, if_neg (fun e => by rw [List.any_cons, hn] at e; cases e.2)]
      · omega
    · have h1 : ¬ who[j].f0.toList = [110, 97, 109, 101] := fun e => hn (beq_iff_eq.2 e)
      rw [if_neg h1, w64 (x := (j : Int) + 1) (by omega) (by omega)]
      have := ih (j + 1) c acc k (by omega) (by omega) hk (by omega)
      rw [show ((j : Int) + 1) = ((j + 1 : Nat) : Int) by omega, this, hput, if_neg hn, List.any_cons, Bool.eq_false_iff.2 hn, Bool.false_or]
def fixR (r : Option (List S41)) : List S41 × Int := match r with
  | none => ([], 60)
  | some f => (f, 0)
theorem fx_l0 (l : List S41) (who : List S39) (hl : l.length ≤ 4) (hw : who.length ≤ 4) : ∀ d i acc k, i + d = l.length → acc.length + 10 * d ≤ 500 → 1001 + 20 * d + 1 ≤ k →
    lagoonref06_Fix.l0 k l who acc (i : Int) = some (fixR ((fixLoop who (l.drop i) acc).bind fun f => if f.length ≤ 4 then some f else none)) := by
  intro d
  induction d with
  | zero =>
    intro i acc k hi ha hk
    obtain ⟨k, rfl⟩ : ∃ m, k = m + 1 := ⟨k - 1, by omega⟩
    rw [lagoonref06_Fix.l0, if_neg (by omega), List.drop_of_length_le (by omega)]
    show _ = some (fixR (if acc.length ≤ 4 then some acc else none))
    by_cases h : acc.length ≤ 4
    · rw [if_neg (by omega), if_pos h]; rfl
    · rw [if_pos (by omega), if_neg h]; rfl
  | succ d ih =>
    intro i acc k hi ha hk
    have hlt : i < l.length := by omega
    obtain ⟨k, rfl⟩ : ∃ m, k = m + who.length + 1 + 1 := ⟨k - who.length - 2, by omega⟩
    rw [lagoonref06_Fix.l0, if_pos (by omega), if_pos (by omega), rdE hlt, List.drop_eq_getElem_cons hlt, fixLoop]
    by_cases hau : authB l[i] = true
    · have h1 : l[i].f1.f0.toList = [97, 117, 116, 104] := beq_iff_eq.1 hau
      rw [if_pos h1, if_pos hau]
      have := fx_l1 l who hl hw hlt who.length 0 0 acc k (by omega) (by omega) (by omega) (by omega)
      rw [List.drop_zero] at this
      rw [show (0 : Int) = ((0 : Nat) : Int) from rfl, this]
      have hlen := putAll_len l[i].f0 who acc
      by_cases hn : who.any namedB = true
      · rw [if_neg (fun e => by rw [hn] at e; cases e.2), if_pos hn]
        exact ih (i + 1) _ k (by omega) (by omega) (by omega)
      · rw [if_pos ⟨rfl, Bool.eq_false_iff.2 hn⟩, if_neg hn]
        rfl
    · have h1 : ¬ l[i].f1.f0.toList = [97, 117, 116, 104] := fun e => hau (beq_iff_eq.2 e)
      rw [if_neg h1, if_neg hau, put_f acc l[i] (by omega) _ (by omega), Option.bind_some, w64 (by omega) (by omega)]
      have hlen := putB_le acc l[i]
      exact ih (i + 1) _ _ (by omega) (by omega) (by omega)
theorem fix_f (l : List S41) (who : List S39) (hs : ∀ x ∈ l, smE x) (hw : ∀ x ∈ who, smI x) (k : Nat) (hk : 536871000 + 60 ≤ k) : lagoonref06_Fix.f k l who = some (fixR (fixB l who)) := by
  unfold lagoonref06_Fix.f fixB
  obtain ⟨k, rfl⟩ : ∃ m, k = m + 1 := ⟨k - 1, by omega⟩
  rw [check_f l hs _ (by omega), checkIds_f who hw _ (by omega), Option.bind_some, Option.bind_some]
  cases h1 : checkB l with
  | false => rw [if_neg (by decide), lagoonref06_Fix.j0, if_pos rfl]; rfl
  | true =>
    rw [if_pos (by rfl)]
    cases h2 : checkIB who with
    | false => rw [lagoonref06_Fix.j0, if_pos (by decide)]; rfl
    | true =>
      rw [lagoonref06_Fix.j0, if_neg (by decide)]
      have hl4 := checkB_le h1
      have hw4 := checkIB_le h2
      rw [if_pos rfl, if_pos rfl]
      by_cases hz : l.length = 0
      · rw [if_pos (by omega), if_pos hz]; rfl
      · rw [if_neg (by omega), if_neg hz]
        have := fx_l0 l who hl4 hw4 l.length 0 [] k (by omega) (by simp; omega) (by omega)
        rw [List.drop_zero] at this
        exact this
/-! THE REFERENCE: ALLOWS -/
end Go.Proofs.YtgjgafibipepeaaGreatDoor.Q
namespace Go.Proofs.YtgjgafibipepeaaGreatDoor.Q
open Go.RowKit Go.Proofs.YtgjgafibipepeaaGreatDoorW.PrintWords Go.Deep Go.Maps Go.WideShapes Go.Lib
open Go.Proofs.YtgjgafibipepeaaGreatDoor.Pr (S39 S41 k39 k41 z39 z41 rd_T39 rd_T41)
open Go.Proofs.YtgjgafibipepeaaGreatDoor
set_option linter.unusedVariables false
set_option linter.unusedSimpArgs false
attribute [local go_sem] Oper.semAt_some
/-! ACLALLOWS: THE WALK -/
end Go.Proofs.YtgjgafibipepeaaGreatDoor.Q
