import Derived.Test.YtgjgafibipepeaaGreatDoorC2
import Derived.Test.YtgjgafibipepeaaGreatDoorC3
namespace Go.Proofs.YtgjgafibipepeaaGreatDoor.Q
open Go.RowKit Go.Proofs.YtgjgafibipepeaaGreatDoorW.PrintWords Go.Lib
open Go.Proofs.YtgjgafibipepeaaGreatDoor.Pr
set_option linter.unusedVariables false
set_option linter.unusedSimpArgs false
/-! THE REFERENCE: FIX -/
open Classical in
theorem put_go (acc : List S41) (x : S41) (hl : acc.length ≤ 1000) : ∀ d j k, j + d = acc.length → d < k →
    lagoonref06_put.l0 k acc (j : Int) x.f0 x.f1.f0 x.f1.f1 = some (if x ∈ acc.drop j then acc else acc ++ [x]) := by
  intro d
  induction d with
  | zero =>
    intro j k hj hk
    obtain ⟨k, rfl⟩ : ∃ m, k = m + 1 := ⟨k - 1, by omega⟩
    rw [lagoonref06_put.l0, if_neg (by omega), if_pos (by omega), List.drop_of_length_le (by omega), if_neg List.not_mem_nil]
  | succ d ih =>
    intro j k hj hk
    obtain ⟨k, rfl⟩ : ∃ m, k = m + 1 := ⟨k - 1, by omega⟩
    have hlt : j < acc.length := by omega
    rw [lagoonref06_put.l0, if_pos (by omega), if_pos (by omega), rdE hlt, List.drop_eq_getElem_cons hlt]
    have he : ((acc[j].f0 == x.f0 && ((acc[j].f1.f0.toList == x.f1.f0.toList) && (acc[j].f1.f1.toList == x.f1.f1.toList))) = true) ↔ x = acc[j] := by
      have := @eqE_iff acc[j] x
      unfold eqE at this
      rw [this]; exact eq_comm
    by_cases h : x = acc[j]
    · rw [if_pos (he.2 h), if_pos (by rw [← h]; exact List.mem_cons_self)]
    · rw [if_neg (fun e => h (he.1 e)), w64 (by omega) (by omega)]
      have := ih (j + 1) k (by omega) (by omega)
      rw [show ((j : Int) + 1) = ((j + 1 : Nat) : Int) by omega, this]
      simp only [List.mem_cons, h, false_or]
theorem put_f (acc : List S41) (x : S41) (hl : acc.length ≤ 1000) (k : Nat) (hk : 1001 ≤ k) : lagoonref06_put.f k acc x.f0 x.f1.f0 x.f1.f1 = some (putB acc x) := by
  have := put_go acc x hl acc.length 0 k (by omega) (by omega)
  rw [List.drop_zero] at this
  unfold lagoonref06_put.f
  rw [show (0 : Int) = ((0 : Nat) : Int) from rfl, this]
  by_cases h : x ∈ acc
  · rw [if_pos h, putB_mem h]
  · rw [if_neg h, putB_new h]
theorem putB_len (acc : List S41) (x : S41) : (putB acc x).length ≤ acc.length + 1 := putB_le acc x
theorem putAll_len (q : Int) : ∀ (who : List S39) (acc : List S41), (putAll acc q who).length ≤ acc.length + who.length
  | [], acc => Nat.le_refl _
  | i :: r, acc => by
    unfold putAll
    rw [List.foldl_cons]
    have h1 := putAll_len q r (if namedB i = true then putB acc ⟨q, i⟩ else acc)
    unfold putAll at h1
    refine Nat.le_trans h1 ?_
    split
    · have := putB_le acc ⟨q, i⟩; simp only [List.length_cons]; omega
    · simp only [List.length_cons]; omega
theorem fx_l1 (l : List S41) (who : List S39) (hl : l.length ≤ 4) (hw : who.length ≤ 4) {i : Nat} (hi : i < l.length) : ∀ d j (c : Nat) acc k, j + d = who.length → acc.length + d ≤ 900 → 1001 ≤ k → c + d ≤ 100 →
    lagoonref06_Fix.l1 (k + d + 1) l who acc i c j = if c = 0 ∧ (who.drop j).any namedB = false then some ([], 60) else lagoonref06_Fix.l0 k l who (putAll acc l[i].f0 (who.drop j)) ((i + 1 : Nat) : Int) := by
  intro d
  induction d with
  | zero =>
    intro j c acc k hj ha hk hc
    rw [lagoonref06_Fix.l1, if_neg (by omega), List.drop_of_length_le (by omega)]
    by_cases h : c = 0
    · rw [if_pos (by omega), if_pos ⟨h, rfl⟩]
    · rw [if_neg (by omega), if_neg (fun e => h e.1), w64 (by omega) (by omega)]
      rfl
  | succ d ih =>
    intro j c acc k hj ha hk hc
    have hlt : j < who.length := by omega
    rw [show k + (d + 1) + 1 = (k + d + 1) + 1 by omega, lagoonref06_Fix.l1, if_pos (by omega), if_pos (by omega), rdI hlt, rdE hi, List.drop_eq_getElem_cons hlt]
    have hput : putAll acc l[i].f0 (who[j] :: who.drop (j + 1)) = putAll (if namedB who[j] = true then putB acc ⟨l[i].f0, who[j]⟩ else acc) l[i].f0 (who.drop (j + 1)) := rfl
    by_cases hn : namedB who[j] = true
    · have h1 : who[j].f0.toList = [110, 97, 109, 101] := beq_iff_eq.1 hn
      rw [if_pos h1, if_pos (by omega), if_pos (by omega)]
      have hp := put_f acc ⟨l[i].f0, who[j]⟩ (by omega) (k + d + 1) (by omega)
      dsimp only at hp
      rw [hp, Option.bind_some, w64 (x := (c : Int) + 1) (by omega) (by omega), w64 (x := (j : Int) + 1) (by omega) (by omega)]
      have hl2 := putB_le acc ⟨l[i].f0, who[j]⟩
      have := ih (j + 1) (c + 1) (putB acc ⟨l[i].f0, who[j]⟩) k (by omega) (by omega) hk
      rw [show ((c : Int) + 1) = ((c + 1 : Nat) : Int) by omega, show ((j : Int) + 1) = ((j + 1 : Nat) : Int) by omega]
      by_cases hc2 : c + 1 + d ≤ 100
      · rw [this hc2, if_neg (fun e => by omega), hput, if_pos hn, if_neg (fun e => by rw [List.any_cons, hn] at e; cases e.2)]
      · omega
    · have h1 : ¬ who[j].f0.toList = [110, 97, 109, 101] := fun e => hn (beq_iff_eq.2 e)
      rw [if_neg h1, w64 (x := (j : Int) + 1) (by omega) (by omega)]
      have := ih (j + 1) c acc k (by omega) (by omega) hk (by omega)
      rw [show ((j : Int) + 1) = ((j + 1 : Nat) : Int) by omega, this, hput, if_neg hn, List.any_cons, Bool.eq_false_iff.2 hn, Bool.false_or]
def fixR (r : Option (List S41)) : List S41 × Int := match r with
  | none => ([], 60)
  | some f => (f, 0)
theorem fx_l0 (l : List S41) (who : List S39) (hl : l.length ≤ 4) (hw : who.length ≤ 4) : ∀ d i acc k, i + d = l.length → acc.length + 10 * d ≤ 500 → 1001 + 20 * d + 1 ≤ k →
    lagoonref06_Fix.l0 k l who acc (i : Int) = some (fixR ((fixLoop who (l.drop i) acc).bind fun f => if f.length ≤ 4 then some f else none)) := by
  intro d
  induction d with
  | zero =>
    intro i acc k hi ha hk
    obtain ⟨k, rfl⟩ : ∃ m, k = m + 1 := ⟨k - 1, by omega⟩
    rw [lagoonref06_Fix.l0, if_neg (by omega), List.drop_of_length_le (by omega)]
    show _ = some (fixR (if acc.length ≤ 4 then some acc else none))
    by_cases h : acc.length ≤ 4
    · rw [if_neg (by omega), if_pos h]; rfl
    · rw [if_pos (by omega), if_neg h]; rfl
  | succ d ih =>
    intro i acc k hi ha hk
    have hlt : i < l.length := by omega
    obtain ⟨k, rfl⟩ : ∃ m, k = m + who.length + 1 + 1 := ⟨k - who.length - 2, by omega⟩
    rw [lagoonref06_Fix.l0, if_pos (by omega), if_pos (by omega), rdE hlt, List.drop_eq_getElem_cons hlt, fixLoop]
    by_cases hau : authB l[i] = true
    · have h1 : l[i].f1.f0.toList = [97, 117, 116, 104] := beq_iff_eq.1 hau
      rw [if_pos h1, if_pos hau]
      have := fx_l1 l who hl hw hlt who.length 0 0 acc k (by omega) (by omega) (by omega) (by omega)
      rw [List.drop_zero] at this
      rw [show (0 : Int) = ((0 : Nat) : Int) from rfl, this]
      have hlen := putAll_len l[i].f0 who acc
      by_cases hn : who.any namedB = true
      · rw [if_neg (fun e => by rw [hn] at e; cases e.2), if_pos hn]
        exact ih (i + 1) _ k (by omega) (by omega) (by omega)
      · rw [if_pos ⟨rfl, Bool.eq_false_iff.2 hn⟩, if_neg hn]
        rfl
    · have h1 : ¬ l[i].f1.f0.toList = [97, 117, 116, 104] := fun e => hau (beq_iff_eq.2 e)
      rw [if_neg h1, if_neg hau, put_f acc l[i] (by omega) _ (by omega), Option.bind_some, w64 (by omega) (by omega)]
      have hlen := putB_le acc l[i]
      exact ih (i + 1) _ _ (by omega) (by omega) (by omega)
theorem fix_f (l : List S41) (who : List S39) (hs : ∀ x ∈ l, smE x) (hw : ∀ x ∈ who, smI x) (k : Nat) (hk : 536871000 + 60 ≤ k) : lagoonref06_Fix.f k l who = some (fixR (fixB l who)) := by
  unfold lagoonref06_Fix.f fixB
  obtain ⟨k, rfl⟩ : ∃ m, k = m + 1 := ⟨k - 1, by omega⟩
  rw [check_f l hs _ (by omega), checkIds_f who hw _ (by omega), Option.bind_some, Option.bind_some]
  cases h1 : checkB l with
  | false => rw [if_neg (by decide), lagoonref06_Fix.j0, if_pos rfl]; rfl
  | true =>
    rw [if_pos (by rfl)]
    cases h2 : checkIB who with
    | false => rw [lagoonref06_Fix.j0, if_pos (by decide)]; rfl
    | true =>
      rw [lagoonref06_Fix.j0, if_neg (by decide)]
      have hl4 := checkB_le h1
      have hw4 := checkIB_le h2
      rw [if_pos rfl, if_pos rfl]
      by_cases hz : l.length = 0
      · rw [if_pos (by omega), if_pos hz]; rfl
      · rw [if_neg (by omega), if_neg hz]
        have := fx_l0 l who hl4 hw4 l.length 0 [] k (by omega) (by simp; omega) (by omega)
        rw [List.drop_zero] at this
        exact this
/-! THE REFERENCE: ALLOWS -/
def isFixedB (l : List S41) : Bool := !l.any authB && (decide (0 < l.length) && checkB l)
theorem fixed_go (l : List S41) (hl : l.length ≤ 4294967296) (hs : ∀ x ∈ l, smE x) : ∀ d i k, i + d = l.length → 536871000 + 60 + d + 1 ≤ k →
    lagoonref06_Fixed.l0 k l (i : Int) = some (!(l.drop i).any authB && (decide (0 < l.length) && checkB l)) := by
  intro d
  induction d with
  | zero =>
    intro i k hi hk
    obtain ⟨k, rfl⟩ : ∃ m, k = m + 1 := ⟨k - 1, by omega⟩
    rw [lagoonref06_Fixed.l0, if_neg (by omega), List.drop_of_length_le (by omega)]
    by_cases h : 0 < l.length
    · rw [if_pos (by omega), check_f l hs k (by omega), Option.bind_some, decide_eq_true h]
      cases checkB l <;> rfl
    · rw [if_neg (by omega), decide_eq_false h]; rfl
  | succ d ih =>
    intro i k hi hk
    obtain ⟨k, rfl⟩ : ∃ m, k = m + 1 := ⟨k - 1, by omega⟩
    have hlt : i < l.length := by omega
    rw [lagoonref06_Fixed.l0, if_pos (by omega), if_pos (by omega), rdE hlt, List.drop_eq_getElem_cons hlt, List.any_cons]
    by_cases hau : authB l[i] = true
    · have h1 : l[i].f1.f0.toList = [97, 117, 116, 104] := beq_iff_eq.1 hau
      rw [if_pos h1, hau]; rfl
    · have h1 : ¬ l[i].f1.f0.toList = [97, 117, 116, 104] := fun e => hau (beq_iff_eq.2 e)
      rw [if_neg h1, Bool.eq_false_iff.2 hau, Bool.false_or, w64 (by omega) (by omega)]
      exact ih (i + 1) k (by omega) (by omega)
theorem fixed_f (l : List S41) (hl : l.length ≤ 2147483648) (hs : ∀ x ∈ l, smE x) (k : Nat) (hk : 536871000 + 2147483648 + 100 ≤ k) : lagoonref06_Fixed.f k l = some (isFixedB l) := by
  have := fixed_go l (by omega) hs l.length 0 k (by omega) (by omega)
  rw [List.drop_zero] at this
  exact this
/-- is a bit given by an entry? -/
def givesB (who : List S39) (b : Int) (x : S41) : Bool := wayB who x && !(andd x.f0 b == 0)
theorem meets_eq {x : S41} {i : S39} (h1 : entI x.f1 = true) (h2 : cli i = true) : meetsB x.f1.f0.data.toList x.f1.f1.data.toList i.f0.data.toList i.f1.data.toList = meE x i := by
  unfold meetsB meE
  unfold entI at h1
  unfold cli at h2
  rw [h1, h2]; rfl
theorem sz_meets {x y : S39} (hx : smI x) (hy : smI y) : x.f1.size + y.f1.size + 40 ≤ 1073742000 ∧ x.f1.size ≤ 4294967296 ∧ y.f1.size ≤ 4294967296 := by
  have := hx.2; have := hy.2; omega
theorem al_l2 {l : List S41} {p : Int} {who : List S39} {b : Int} (hl : l.length ≤ 4) (hw : who.length ≤ 4) (hsl : ∀ x ∈ l, smE x) (hsw : ∀ x ∈ who, smI x) (hel : ∀ x ∈ l, entI x.f1 = true) (hcw : ∀ x ∈ who, cli x = true) {i : Nat} (hi : i < l.length)
    (R : Bool → Bool) (K0 : Nat) (hK : 1073742000 ≤ K0) (H : ∀ f' k', K0 ≤ k' → lagoonref06_Allows.l1 k' l p who b f' ((i + 1 : Nat) : Int) = some (R f')) : ∀ d j k (m : Bool), j + d = who.length → K0 + d + 1 ≤ k →
    lagoonref06_Allows.l2 k l p who b i m j = some (R ((m || (who.drop j).any (meE l[i])) && !(andd l[i].f0 b == 0))) := by
  intro d
  induction d with
  | zero =>
    intro j k m hj hk
    obtain ⟨k, rfl⟩ : ∃ m, k = m + 1 := ⟨k - 1, by omega⟩
    rw [lagoonref06_Allows.l2, if_neg (by omega), List.drop_of_length_le (by omega), w64 (by omega) (by omega)]
    cases m with
    | true =>
      rw [if_pos rfl, if_pos (by omega), if_pos (by omega), rdE hi]
      exact H _ k (by omega)
    | false =>
      rw [if_neg (by simp)]
      exact H _ k (by omega)
  | succ d ih =>
    intro j k m hj hk
    obtain ⟨k, rfl⟩ : ∃ m, k = m + 1 := ⟨k - 1, by omega⟩
    have hlt : j < who.length := by omega
    rw [lagoonref06_Allows.l2, if_pos (by omega), List.drop_eq_getElem_cons hlt, List.any_cons]
    cases m with
    | true =>
      rw [if_pos rfl, if_pos (by omega), if_pos (by omega), rdE hi, w64 (by omega) (by omega)]
      exact H _ k (by omega)
    | false =>
      obtain ⟨z1, z2, z3⟩ := sz_meets (hsl _ (List.getElem_mem hi)) (hsw _ (List.getElem_mem hlt))
      rw [if_neg (by simp), if_pos (by omega), if_pos (by omega), if_pos (by omega), rdE hi, rdI hlt, meets_f _ _ _ _ z2 z3 k (by omega), Option.bind_some, meets_eq (hel _ (List.getElem_mem hi)) (hcw _ (List.getElem_mem hlt)), w64 (by omega) (by omega)]
      have := ih (j + 1) k (meE l[i] who[j]) (by omega) (by omega)
      rw [show ((j : Int) + 1) = ((j + 1 : Nat) : Int) by omega, this, Bool.false_or]
theorem al_l1 {l : List S41} {p : Int} {who : List S39} {b : Int} (hl : l.length ≤ 4) (hw : who.length ≤ 4) (hsl : ∀ x ∈ l, smE x) (hsw : ∀ x ∈ who, smI x) (hel : ∀ x ∈ l, entI x.f1 = true) (hcw : ∀ x ∈ who, cli x = true)
    (R0 : Bool) (K0 : Nat) (hK : 1073742000 ≤ K0) (H : ∀ k', K0 ≤ k' → lagoonref06_Allows.l0 k' l p who (IntKind.i8.wrap (b * 2)) = some R0) : ∀ d i k (f' : Bool), i + d = l.length → K0 + 10 * d + 2 ≤ k →
    lagoonref06_Allows.l1 k l p who b f' i = some ((f' || (l.drop i).any (givesB who b)) && R0) := by
  intro d
  induction d with
  | zero =>
    intro i k f' hi hk
    obtain ⟨k, rfl⟩ : ∃ m, k = m + 1 + 1 := ⟨k - 2, by omega⟩
    rw [lagoonref06_Allows.l1, if_neg (by omega), lagoonref06_Allows.j3, if_neg (by simp), List.drop_of_length_le (by omega)]
    cases f' with
    | true => rw [if_pos rfl, H k (by omega)]; rfl
    | false => rw [if_neg (by simp)]; rfl
  | succ d ih =>
    intro i k f' hi hk
    obtain ⟨k, rfl⟩ : ∃ m, k = m + 1 + 1 := ⟨k - 2, by omega⟩
    have hlt : i < l.length := by omega
    rw [lagoonref06_Allows.l1, if_pos (by omega), lagoonref06_Allows.j3]
    cases f' with
    | true => rw [if_neg (by simp), if_pos rfl, H k (by omega)]; rfl
    | false =>
      rw [if_pos (by rfl), if_pos (by omega), if_pos (by omega), rdE hlt, List.drop_eq_getElem_cons hlt, List.any_cons]
      have := al_l2 (p := p) (b := b) hl hw hsl hsw hel hcw hlt (fun f' => (f' || (l.drop (i + 1)).any (givesB who b)) && R0) (K0 + 10 * d + 2) (by omega) (fun f' k' hk' => ih (i + 1) k' f' (by omega) hk') who.length 0 k (l[i].f1.f0.toList == sWorld) (by omega) (by omega)
      rw [List.drop_zero] at this
      rw [show (0 : Int) = ((0 : Nat) : Int) from rfl]
      rw [this, Bool.false_or]
      rfl
theorem al_l0 {l : List S41} {p : Int} {who : List S39} (hl : l.length ≤ 4) (hw : who.length ≤ 4) (hsl : ∀ x ∈ l, smE x) (hsw : ∀ x ∈ who, smI x) (hel : ∀ x ∈ l, entI x.f1 = true) (hcw : ∀ x ∈ who, cli x = true) (k : Nat) (hk : 1073742000 + 1000 ≤ k) :
    lagoonref06_Allows.l0 k l p who 1 = some ([1, 2, 4, 8, 16].all fun b => (andd p b == 0) || l.any (givesB who b)) := by
  have h32 : ∀ k', 1073742000 ≤ k' → lagoonref06_Allows.l0 k' l p who (IntKind.i8.wrap (16 * 2)) = some true := fun k' hk' => by
    obtain ⟨k, rfl⟩ : ∃ m, k' = m + 1 := ⟨k' - 1, by omega⟩
    rw [show IntKind.i8.wrap (16 * 2) = 32 from rfl, lagoonref06_Allows.l0, if_neg (by omega)]
  have step : ∀ (b : Int) (R0 : Bool) (K0 : Nat), b < 32 → 1073742000 ≤ K0 → (∀ k', K0 ≤ k' → lagoonref06_Allows.l0 k' l p who (IntKind.i8.wrap (b * 2)) = some R0) → ∀ k', K0 + 100 ≤ k' → lagoonref06_Allows.l0 k' l p who b = some (((andd p b == 0) || l.any (givesB who b)) && R0) := fun b R0 K0 hb hK H k' hk' => by
    obtain ⟨k, rfl⟩ : ∃ m, k' = m + 1 := ⟨k' - 1, by omega⟩
    rw [lagoonref06_Allows.l0, if_pos hb]
    have := al_l1 (p := p) (b := b) hl hw hsl hsw hel hcw R0 K0 hK H l.length 0 k (andd p b == 0) (by omega) (by omega)
    rw [List.drop_zero] at this
    rw [show (0 : Int) = ((0 : Nat) : Int) from rfl]
    exact this
  have h16 := step 16 true 1073742000 (by omega) (by omega) h32
  have h8 := step 8 _ (1073742000 + 100) (by omega) (by omega) (fun k' hk' => by rw [show IntKind.i8.wrap (8 * 2) = 16 from rfl]; exact h16 k' hk')
  have h4 := step 4 _ (1073742000 + 200) (by omega) (by omega) (fun k' hk' => by rw [show IntKind.i8.wrap (4 * 2) = 8 from rfl]; exact h8 k' hk')
  have h2 := step 2 _ (1073742000 + 300) (by omega) (by omega) (fun k' hk' => by rw [show IntKind.i8.wrap (2 * 2) = 4 from rfl]; exact h4 k' hk')
  have h1 := step 1 _ (1073742000 + 400) (by omega) (by omega) (fun k' hk' => by rw [show IntKind.i8.wrap (1 * 2) = 2 from rfl]; exact h2 k' hk')
  rw [h1 k (by omega)]
  simp only [List.all_cons, List.all_nil]
theorem or_bit {a q b : Int} (ha : 0 ≤ a ∧ a ≤ 31) (hq : 0 ≤ q ∧ q ≤ 31) (hb : b ∈ ([1, 2, 4, 8, 16] : List Int)) : (anot b (orr a q) == 0) = ((anot b a == 0) || !(andd q b == 0)) := by
  obtain ⟨i, rfl⟩ := to_fin ha
  obtain ⟨j, rfl⟩ := to_fin hq
  have : ∀ i j : Fin 32, ∀ b ∈ ([1, 2, 4, 8, 16] : List Int), (anot b (orr i.1 j.1) == 0) = ((anot b i.1 == 0) || !(andd j.1 b == 0)) := by decide +kernel
  exact this i j b hb
theorem may_bit (who : List S39) {b : Int} (hb : b ∈ ([1, 2, 4, 8, 16] : List Int)) : ∀ (l : List S41) (acc : Int), (∀ x ∈ l, 0 ≤ x.f0 ∧ x.f0 ≤ 31) → (0 ≤ acc ∧ acc ≤ 31) → (anot b (mayB who l acc) == 0) = ((anot b acc == 0) || l.any (givesB who b))
  | [], acc, _, _ => by rw [List.any_nil, Bool.or_false]; rfl
  | x :: r, acc, hl, ha => by
    have hx := hl x List.mem_cons_self
    have hr : ∀ y ∈ r, 0 ≤ y.f0 ∧ y.f0 ≤ 31 := fun y hy => hl y (List.mem_cons_of_mem _ hy)
    rw [mayB_eq, List.foldl_cons, ← mayB_eq, List.any_cons]
    unfold givesB
    by_cases hw : wayB who x = true
    · rw [if_pos hw, may_bit who hb r _ hr (or_range ha hx), or_bit ha hx hb, hw, Bool.true_and, Bool.or_assoc]
      rfl
    · rw [if_neg hw, may_bit who hb r _ hr ha, Bool.eq_false_iff.2 hw, Bool.false_and, Bool.false_or]
      rfl
theorem allows_f (l : List S41) (p : Int) (who : List S39) (hl : l.length ≤ 2147483648) (hsl : ∀ x ∈ l, smE x) (hsw : ∀ x ∈ who, smI x) (k : Nat) (hk : 5000000000 ≤ k) : lagoonref06_Allows.f k l p who = some (allowsB l p who) := by
  unfold lagoonref06_Allows.f
  obtain ⟨k, rfl⟩ : ∃ m, k = m + 1 := ⟨k - 1, by omega⟩
  rw [fixed_f l hl hsl _ (by omega), checkIds_f who hsw _ (by omega), Option.bind_some, Option.bind_some]
  have hF : lagoonref06_Allows.j0 (k + 1) l p who true = some false := by rw [lagoonref06_Allows.j0, if_pos rfl]
  cases hx : isFixedB l with
  | false =>
    rw [if_neg (by simp), hF]
    have : allowsB l p who = false := by
      unfold isFixedB at hx
      unfold allowsB
      cases h1 : l.any authB <;> rw [h1] at hx
      · cases h2 : checkB l <;> rw [h2] at hx
        · simp
        · have h3 : l.length = 0 := by
            have : decide (0 < l.length) = false := by simpa using hx
            have := of_decide_eq_false this
            omega
          rw [decide_eq_true h3]; rfl
      · simp
    rw [this]
  | true =>
    have hfix : IsFixed l := by
      unfold isFixedB at hx
      simp only [Bool.and_eq_true, Bool.not_eq_true', decide_eq_true_eq, List.any_eq_false] at hx
      exact ⟨hx.2.2, fun x h => Bool.eq_false_iff.2 (hx.1 x h), fun e => by rw [e] at hx; simp at hx⟩
    rw [if_pos rfl, allows_fixed hfix]
    cases hc : checkIB who with
    | false => rw [if_neg (by decide), hF]; simp
    | true =>
      rw [if_pos (by rfl)]
      by_cases h0 : p < 0
      · rw [if_pos h0, hF, decide_eq_false (show ¬ 0 ≤ p by omega)]; rfl
      · rw [if_neg h0, decide_eq_true (show 0 ≤ p by omega)]
        by_cases h1 : p ≤ 31
        · rw [decide_eq_true h1, decide_eq_false (show ¬ p > 31 by omega), lagoonref06_Allows.j0, if_neg (by simp)]
          have c1 := checkB_iff.1 hfix.right
          have c2 := checkIB_iff.1 hc
          have hel : ∀ x ∈ l, entI x.f1 = true := ent_of_check hfix.right
          rw [al_l0 c1.1 c2.1 hsl hsw hel c2.2.2 k (by omega), sub_bits ⟨by omega, h1⟩ (may_range who l 0 hfix.range ⟨by omega, by omega⟩)]
          simp only [List.all_cons, List.all_nil, Bool.true_and]
          have hb : ∀ b ∈ ([1, 2, 4, 8, 16] : List Int), (anot b (mayB who l 0) == 0) = l.any (givesB who b) := fun b hb => by
            rw [may_bit who hb l 0 hfix.range ⟨by omega, by omega⟩]
            have : (anot b 0 == 0) = false := by
              simp only [List.mem_cons, List.not_mem_nil, or_false] at hb
              rcases hb with rfl | rfl | rfl | rfl | rfl <;> decide +kernel
            rw [this, Bool.false_or]
          rw [hb 1 (by simp), hb 2 (by simp), hb 4 (by simp), hb 8 (by simp), hb 16 (by simp)]
        · rw [decide_eq_false h1, decide_eq_true (show p > 31 by omega), hF]; rfl
end Go.Proofs.YtgjgafibipepeaaGreatDoor.Q
namespace Go.Proofs.YtgjgafibipepeaaGreatDoor.Q
open Go.RowKit Go.Proofs.YtgjgafibipepeaaGreatDoorW.PrintWords Go.Deep Go.Maps Go.WideShapes Go.Lib
open Go.Proofs.YtgjgafibipepeaaGreatDoor.Pr (S39 S41 k39 k41 z39 z41 rd_T39 rd_T41)
open Go.Proofs.YtgjgafibipepeaaGreatDoor
set_option linter.unusedVariables false
set_option linter.unusedSimpArgs false
attribute [local go_sem] Oper.semAt_some
/-! ACLALLOWS: THE WALK -/
set_option maxRecDepth 100000 in
set_option maxHeartbeats 8000000 in
theorem aclAllows_calls (A0 A1 A2 : Option Addr) (c0 c1 c2 : Nat) (l : List S41) (maker who : List S39) (pp : Int) (more : S41) (other : S39) (w : World)
    (hr0 : Kd.C k41 w A0 l.length l) (hc0 : l.length ≤ c0) (hr1 : Kd.C k39 w A1 maker.length maker) (hc1 : maker.length ≤ c1) (hr2 : Kd.C k39 w A2 who.length who) (hc2 : who.length ≤ c2)
    (hl0 : l.length ≤ 9223372036854775807) (hl1 : maker.length ≤ 9223372036854775807) (hl2 : who.length ≤ 9223372036854775807) (hE : Env w) :
    Calls Tryz.prog 5 #[.agg #[.slice A0 l.length c0, .slice A1 maker.length c1, .int .i8 pp, .slice A2 who.length c2, .int .i8 more.f0, .string more.f1.f0, .string more.f1.f1, .string other.f0, .string other.f1]] w
      fun e w' => e = .returned (.bool true) ∧ Below w.heap.size w w' := by
  obtain ⟨mq, ms, mm⟩ := more
  obtain ⟨os, om⟩ := other
  dsimp only
  have HR0 := Lib.hid hr0
  have HR1 := Lib.hid hr1
  have HR2 := Lib.hid hr2
  have HE := Lib.hid hE
  clear hr0 hr1 hr2 hE
  go_enter Tryz.func5, Tryz.ntmps5
  go_wp2_with fail
  obtain ⟨W3, hW3⟩ : ∃ W, w.alloc (.cells #[.slice A0 l.length c0, .slice A1 maker.length c1, .int .i8 pp, .slice A2 who.length c2, .int .i8 mq, .string ms, .string mm, .string os, .string om] 69) = W := ⟨_, rfl⟩
  have hB3 : Below w.heap.size w W3 := by rw [← hW3]; exact below_alloc (Below.refl _ w) _
  rw [hW3]
  have HB3 := Lib.hid hB3
  clear hW3 hB3
  obtain ⟨r1, hL1, K1⟩ := long_calls A0 A2 c0 c2 l who hl0 hl2
  have HL1 := Lib.hid hL1
  refine (K1 _ (Kd.C_below HR0.out HB3.out) hc0 (Kd.C_below HR2.out HB3.out) hc2).mono ?_
  rintro e w4 ⟨rfl, hB4⟩
  have HB4 := Lib.hid (below_step HB3.out hB4)
  clear hL1 K1 hB4 HB3
  cases r1 with
  | true =>
    go_wp2
    go_ret
    exact ⟨rfl, HB4.out⟩
  | false =>
  obtain ⟨r2, hL2, K2⟩ := long_calls none A1 0 c1 [] maker (by simp) hl1
  have HL2 := Lib.hid hL2
  have K2 := Lib.hid (K2 w4 (nilC_E _) (Nat.le_refl _) (Kd.C_below HR1.out HB4.out) hc1)
  clear hL2
  go_wp2_with fail
  refine K2.out.mono ?_
  rintro e w6 ⟨rfl, hB6⟩
  have HB6 := Lib.hid (below_step HB4.out hB6)
  clear hB6 K2 HB4
  cases r2 with
  | true =>
    go_wp2
    go_ret
    exact ⟨rfl, HB6.out⟩
  | false =>
  have sl := (HL1.out (by trivial)).1
  have sw := (HL1.out (by trivial)).2.1
  have hlw := (HL1.out (by trivial)).2.2
  have sma := (HL2.out (by trivial)).2.1
  have hmk := (HL2.out (by trivial)).2.2
  have HS := Lib.hid (And.intro sl (And.intro sw sma))
  simp only [List.length_cons, List.length_nil] at hmk
  clear sl sw sma HL1 HL2 hl0 hl1 hl2
  have KL := Lib.hid (lives_calls w6 (HE.out.below HB6.out))
  go_wp2_with fail
  refine KL.out.mono ?_
  rintro e w1 ⟨rfl, hB1⟩
  have HB1 := Lib.hid (below_step HB6.out hB1)
  clear hB1 KL HB6
  have KW := Lib.hid (wideE_calls A0 c0 l w1 (Kd.C_below HR0.out HB1.out) hc0 (by omega) (HE.out.below HB1.out))
  go_wp2_with fail
  refine KW.out.mono ?_
  rintro e w2 ⟨g, cap, rfl, hcap, hRW, hB2⟩
  have HB2 := Lib.hid (below_step HB1.out hB2)
  obtain ⟨aE, haE⟩ : ∃ a : Addr, (⟨g, 0, none⟩ : Addr) = a := ⟨_, rfl⟩
  rw [haE] at hRW ⊢
  have HCE := Lib.hid (Kd.R_reads' hRW).2.2
  clear hRW hB2 KW haE
  have KI := Lib.hid (wideI_calls A2 c2 who w2 (Kd.C_below HR2.out HB2.out) hc2 (by omega) (HE.out.below HB2.out))
  go_wp2_with fail
  refine KI.out.mono ?_
  rintro e w3 ⟨gi, capi, rfl, hcapi, hRI, hB3⟩
  have HB3 := Lib.hid (below_step HB2.out hB3)
  obtain ⟨aI, haI⟩ : ∃ a : Addr, (⟨gi, 0, none⟩ : Addr) = a := ⟨_, rfl⟩
  rw [haI] at hRI ⊢
  have HCI := Lib.hid (Kd.R_reads' hRI).2.2
  have HCE3 := Lib.hid (Kd.C_below HCE.out hB3)
  have HCl : Hid (Kd.C k41 w3 (some aE) l.length l) := Lib.hid (by
    have := HCE3.out
    rw [wideE_len] at this
    exact takeC (l' := wideE l) (by rw [wideE_len]; omega) (by simp [wideE]) (by rw [wideE_len]; exact this))
  have HCw : Hid (Kd.C k39 w3 (some aI) who.length who) := Lib.hid (by
    have := HCI.out
    rw [wideI_len] at this
    exact takeC (l' := wideI who) (by rw [wideI_len]; omega) (by simp [wideI]) (by rw [wideI_len]; exact this))
  have HFE : Hid (Kd.C k41 w3 (some aE) (l.length + 64) (wideE l)) := Lib.hid (by have := HCE3.out; rw [wideE_len] at this; exact this)
  have HFI : Hid (Kd.C k39 w3 (some aI) (who.length + 64) (wideI who)) := Lib.hid (by have := HCI.out; rw [wideI_len] at this; exact this)
  clear hRI hB3 KI haI HCE HCI HCE3 HB2 HB1
  -- Allows, of the list as it is
  obtain ⟨b1, hb1⟩ : ∃ b, allowsB l pp who = b := ⟨_, rfl⟩
  have KA := allows_calls (some aE) (some aI) cap capi l pp who w3 HCl.out (by omega) HCw.out (by omega) HS.out.1 HS.out.2.1 (by omega) (by omega) (HE.out.below HB3.out)
  rw [hb1] at KA
  have KA := Lib.hid KA
  have RA : Hid (∀ W, Below w.heap.size w W → Calls Tryz.prog 25 #[.slice A0 l.length c0, .int .i8 pp, .slice A2 who.length c2] W fun e w' => e = .returned (.bool b1) ∧ Below W.heap.size W w') := Lib.hid fun W h => by
    have := allows_f l pp who (by omega) HS.out.1 HS.out.2.1 5000000000 (Nat.le_refl _)
    rw [hb1] at this
    exact Pr.lagoonref06_Allows.calls _ A0 c0 l pp A2 c2 who _ W (Kd.C_below HR0.out h) hc0 (Kd.C_below HR2.out h) hc2 this
  clear hb1
  go_wp2_with fail
  refine KA.out.mono ?_
  rintro e w5 ⟨rfl, hB5⟩
  have HB35 := Lib.hid hB5
  clear hB5 KA
  -- the reference's Fix
  obtain ⟨fx, hfx⟩ : ∃ x, fixB l maker = x := ⟨_, rfl⟩
  have hff := fix_f l maker HS.out.1 HS.out.2.2 (536871000 + 60) (Nat.le_refl _)
  rw [hfx] at hff
  have KF := Lib.hid (Pr.lagoonref06_Fix.calls _ A0 c0 l A1 c1 maker (fixR fx).1 (fixR fx).2 w5 (Kd.C_below HR0.out (below_step HB3.out HB35.out)) hc0 (Kd.C_below HR1.out (below_step HB3.out HB35.out)) hc1 hff)
  obtain ⟨F, hF⟩ : ∃ F, (fixR fx).1 = F := ⟨_, rfl⟩
  obtain ⟨r, hr⟩ : ∃ r, (fixR fx).2 = r := ⟨_, rfl⟩
  have hF4 : F.length ≤ 4 := by
    rw [← hF]
    cases fx with
    | none => simp [fixR]
    | some f => exact (checkB_iff.1 (fix_right hfx).1).1
  have sF : ∀ x ∈ F, smE x := by
    rw [← hF]
    cases fx with
    | none => intro x hx; simp [fixR] at hx
    | some f => exact fix_small HS.out.1 HS.out.2.2 hfx
  have hr0 : r = 0 ∨ r = 60 := by
    rw [← hr]
    cases fx with
    | none => exact .inr rfl
    | some f => exact .inl rfl
  rw [hF, hr] at KF
  have HSF := Lib.hid sF
  clear hff hfx hF hr sF
  go_wp2_with fail
  refine KF.out.mono ?_
  rintro e w6 ⟨v, rfl, hRF, hB6⟩
  have HB36 := Lib.hid (below_step HB35.out hB6)
  obtain ⟨aF, cF, rfl, hcF, hCF⟩ := Kd.R_reads hRF
  obtain ⟨b2, hb2⟩ : ∃ b, allowsB F pp who = b := ⟨_, rfl⟩
  have HCF := Lib.hid hCF
  have KB := allows_calls aF (some aI) cF capi F pp who w6 hCF hcF (Kd.C_below HCw.out HB36.out) (by omega) HSF.out HS.out.2.1 (by omega) (by omega) (HE.out.below (below_step HB3.out HB36.out))
  rw [hb2] at KB
  have KB := Lib.hid KB
  have RB : Hid (∀ W, Below w6.heap.size w6 W → Calls Tryz.prog 25 #[.slice aF F.length cF, .int .i8 pp, .slice A2 who.length c2] W fun e w' => e = .returned (.bool b2) ∧ Below W.heap.size W w') := Lib.hid fun W h => by
    have := allows_f F pp who (by omega) HSF.out HS.out.2.1 5000000000 (Nat.le_refl _)
    rw [hb2] at this
    exact Pr.lagoonref06_Allows.calls _ aF cF F pp A2 c2 who _ W (Kd.C_below HCF.out h) hcF (Kd.C_below HR2.out (below_step HB3.out (below_step HB36.out h))) hc2 this
  clear hb2 hRF hCF hB6 KF HB35
  go_wp2_with fail
  refine KB.out.mono ?_
  rintro e w7 ⟨rfl, hB7⟩
  have HB37 := Lib.hid (below_step HB36.out hB7)
  have RA1 := Lib.hid (RA.out w7 (below_step HB3.out HB37.out))
  have HB67 := Lib.hid hB7
  clear hB7 KB RA
  obtain ⟨ke, hke⟩ := eqAcl_self l (by omega)
  obtain ⟨ki, hki⟩ := eqIds_self who (by omega)
  have KE : Hid (∀ W, Below w3.heap.size w3 W → Calls Tryz.prog 13 #[.slice (some aE) l.length cap, .slice A0 l.length c0] W fun e w' => e = .returned (.bool true) ∧ Below W.heap.size W w') :=
    Lib.hid fun W hb => (Pr.lagoonref00_EqAcl.calls ke (some aE) cap l A0 c0 l true W (Kd.C_below HCl.out hb) (by omega) (Kd.C_below HR0.out (below_step HB3.out hb)) hc0 hke).mono fun e w' h => ⟨h.1, by first | exact h.2.below | exact h.2⟩
  have KJ : Hid (∀ W, Below w3.heap.size w3 W → Calls Tryz.prog 15 #[.slice (some aI) who.length capi, .slice A2 who.length c2] W fun e w' => e = .returned (.bool true) ∧ Below W.heap.size W w') :=
    Lib.hid fun W hb => (Pr.lagoonref00_EqIds.calls ki (some aI) capi who A2 c2 who true W (Kd.C_below HCw.out hb) (by omega) (Kd.C_below HR2.out (below_step HB3.out hb)) hc2 hki).mono fun e w' h => ⟨h.1, by first | exact h.2.below | exact h.2⟩
  have KS : Hid (∀ W, Below w3.heap.size w3 W → Calls Tryz.prog 14 #[.slice (some aE) l.length cap] W fun e w' => e = .returned (.bool true) ∧ Below W.heap.size W w') :=
    Lib.hid fun W hb => spareE_calls aE cap l W (Kd.C_below HFE.out hb) hcap (by omega) (HE.out.below (below_step HB3.out hb))
  have KT : Hid (∀ W, Below w3.heap.size w3 W → Calls Tryz.prog 16 #[.slice (some aI) who.length capi] W fun e w' => e = .returned (.bool true) ∧ Below W.heap.size W w') :=
    Lib.hid fun W hb => spareI_calls aI capi who W (Kd.C_below HFI.out hb) hcapi (by omega) (HE.out.below (below_step HB3.out hb))
  clear hke hki
  go_upto_region 13 with fail
  go_cut [69] (fun v wz => v = .bool false ∧ Below w7.heap.size w7 wz)
  case first =>
    have eb1 : (b1 == b1) = true := by simp
    have eb2 : (b2 == b2) = true := by simp
    go_wp2_with fail
    refine RA1.out.mono ?_
    rintro e w8 ⟨rfl, hB8⟩
    have HB78 := Lib.hid hB8
    have RB1 := Lib.hid (RB.out w8 (below_step HB67.out hB8))
    clear hB8 RA1 RB
    rcases hr0 with rfl | rfl
    · go_wp2_with fail
      refine RB1.out.mono ?_
      rintro e w9 ⟨rfl, hB9⟩
      have HB79 := Lib.hid (below_step HB78.out hB9)
      clear hB9 RB1
      go_wp2
      go_meet
      case rel => exact ⟨rfl, HB79.out⟩
    · go_wp2
      go_meet
      case rel => exact ⟨rfl, HB78.out⟩
  case rest =>
  obtain ⟨rfl, hBc⟩ := hcut
  have HB38 := Lib.hid (below_step HB37.out hBc)
  have KE1 := Lib.hid (KE.out _ HB38.out)
  clear hBc HB37 HB67 RA1 RB KE
  go_wp2_with fail
  refine KE1.out.mono ?_
  rintro e w8 ⟨rfl, hB8⟩
  have HB39 := Lib.hid (below_step HB38.out hB8)
  have KS1 := Lib.hid (KS.out _ HB39.out)
  clear hB8 KE1 KS HB38
  go_wp2_with fail
  refine KS1.out.mono ?_
  rintro e w9 ⟨rfl, hB9⟩
  have HB40 := Lib.hid (below_step HB39.out hB9)
  have KJ1 := Lib.hid (KJ.out _ HB40.out)
  clear hB9 KS1 KJ HB39
  go_wp2_with fail
  refine KJ1.out.mono ?_
  rintro e w10 ⟨rfl, hB10⟩
  have HB41 := Lib.hid (below_step HB40.out hB10)
  have KT1 := Lib.hid (KT.out _ HB41.out)
  clear hB10 KJ1 KT HB40
  go_wp2_with fail
  refine KT1.out.mono ?_
  rintro e w11 ⟨rfl, hB11⟩
  have HB42 := Lib.hid (below_step HB3.out (below_step HB41.out hB11))
  clear hB11 KT1 HB41
  go_wp2
  go_ret
  exact ⟨rfl, HB42.out⟩
end Go.Proofs.YtgjgafibipepeaaGreatDoor.Q
