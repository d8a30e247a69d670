import Derived.Test.YtgjgafibipepeaaGreatDoorPr5
import Derived.Test.YtgjgafibipepeaaGreatDoorQc
namespace Go.Proofs.YtgjgafibipepeaaGreatDoor.Q
open Go.RowKit Go.Proofs.YtgjgafibipepeaaGreatDoorW.PrintWords Go.Deep Go.Maps Go.WideShapes Go.Lib
open Go.Proofs.YtgjgafibipepeaaGreatDoor.Pr (S39 S41 k39 k41 z39 z41)
set_option linter.unusedVariables false
set_option linter.unusedSimpArgs false
attribute [local go_sem] Oper.semAt_some

/-! THE PREDICATES OF CHECK -/
def smI (x : S39) : Prop := x.f0.size ≤ 536870912 ∧ x.f1.size ≤ 536870912
def smE (x : S41) : Prop := smI x.f1
def cli (x : S39) : Bool := clientB x.f0.data.toList x.f1.data.toList
def entI (x : S39) : Bool := entryB x.f0.data.toList x.f1.data.toList
def ent (x : S41) : Bool := decide (1 ≤ x.f0) && (decide (x.f0 ≤ 31) && entI x.f1)
abbrev encI (x : S39) : List Value := [.string x.f0, .string x.f1]
abbrev encE (x : S41) : List Value := [.int .i8 x.f0, .string x.f1.f0, .string x.f1.f1]
instance : Inhabited {x : S39 // smI x} := ⟨⟨z39, by simp [smI, z39, ByteArray.size]⟩⟩
instance : Inhabited {x : S41 // smE x} := ⟨⟨z41, by simp [smE, smI, z41, z39, ByteArray.size]⟩⟩
theorem checkIds1_calls (x : S39) (w : World) (h : smI x) (hE : Env w) : Calls Tryz.prog 33 #[.agg #[.string x.f0, .string x.f1]] w fun e w' => e = .returned (.bool (!cli x)) ∧ Below w.heap.size w w' := by
  obtain ⟨s, m⟩ := x
  have HB0 := Lib.hid (below_alloc (Below.refl _ w) (.cells #[.string s, .string m] 39))
  have K := Lib.hid (clientId_calls s m (w.alloc (.cells #[.string s, .string m] 39)) h.1 h.2 (hE.below HB0.out))
  clear h hE
  unfold cli
  generalize clientB s.data.toList m.data.toList = r at K ⊢
  go_enter Tryz.func33, Tryz.ntmps33
  go_wp2_with fail
  refine K.out.mono ?_
  rintro e w1 ⟨rfl, hB1⟩
  have HB1 := Lib.hid (below_step HB0.out hB1)
  clear hB1 K
  go_wp2
  go_ret
  exact ⟨by simp, HB1.out⟩
set_option maxHeartbeats 1000000 in
theorem check1_calls (x : S41) (w : World) (h : smE x) (hE : Env w) : Calls Tryz.prog 27 #[.agg #[.int .i8 x.f0, .string x.f1.f0, .string x.f1.f1]] w fun e w' => e = .returned (.bool (!ent x)) ∧ Below w.heap.size w w' := by
  obtain ⟨p, s, m⟩ := x
  have HB0 := Lib.hid (below_alloc (Below.refl _ w) (.cells #[.int .i8 p, .string s, .string m] 41))
  have K := Lib.hid (entryId_calls s m (w.alloc (.cells #[.int .i8 p, .string s, .string m] 41)) h.1 h.2 (hE.below HB0.out))
  clear h hE
  unfold ent entI
  dsimp only
  generalize entryB s.data.toList m.data.toList = r at K ⊢
  have q1 : decide (p < 1) = !decide (1 ≤ p) := by by_cases h : p < 1 <;> simp [h] <;> omega
  have q2 : decide (31 < p) = !decide (p ≤ 31) := by by_cases h : p ≤ 31 <;> simp [h] <;> omega
  cases h1 : decide (1 ≤ p) <;> rw [h1] at q1
  · go_enter Tryz.func27, Tryz.ntmps27
    go_wp2
    go_ret
    exact ⟨by simp, HB0.out⟩
  · cases h2 : decide (p ≤ 31) <;> rw [h2] at q2
    · go_enter Tryz.func27, Tryz.ntmps27
      go_wp2
      go_ret
      exact ⟨by simp, HB0.out⟩
    · go_enter Tryz.func27, Tryz.ntmps27
      go_wp2_with fail
      refine K.out.mono ?_
      rintro e w1 ⟨rfl, hB1⟩
      have HB1 := Lib.hid (below_step HB0.out hB1)
      clear hB1 K
      go_wp2
      go_ret
      exact ⟨by simp, HB1.out⟩
theorem lift_list {α : Type} {q : α → Prop} : ∀ (l : List α), (∀ x ∈ l, q x) → ∃ zs : List {x // q x}, zs.map (·.1) = l
  | [], _ => ⟨[], rfl⟩
  | a :: r, h => let ⟨zs, hz⟩ := lift_list r fun x hx => h x (List.mem_cons_of_mem _ hx); ⟨⟨a, h a List.mem_cons_self⟩ :: zs, by simp [hz]⟩
theorem addr_plain {w : World} {ad : Addr} {n : Nat} {v : Value} (h : w.cell? (ad.add n) = some v) (h0 : n = 0) : ad = ⟨ad.block, ad.off, none⟩ := by
  subst h0
  obtain ⟨b, o, s⟩ := ad
  cases s with
  | none => rfl
  | some s =>
    simp [Addr.add, World.cell?] at h
    split at h <;> cases h
/-- where a list's elements lie -/
theorem rows_of {α : Type} {d : Kd α} {w : World} {A : Option Addr} {l : List α} (enc : α → List Value) (k : Nat) (z : α) (hr : Kd.C d w A l.length l) (hk : d.sz = k) (hpos : 0 < k)
    (ho : ∀ x cs, d.K w x cs → cs = enc x) (hlen : ∀ x, (enc x).length = k) (hne : l ≠ []) :
    ∃ b off, A = some ⟨b, off, none⟩ ∧ b < w.heap.size ∧ ∀ j, (hj : j < l.length) → ∀ i v, (enc (l[j]'hj))[i]? = some v → w.cell? ⟨b, off + j * k + i, none⟩ = some v := by
  have hl : 0 < l.length := List.length_pos_iff.2 hne
  obtain ⟨ad, c, e, _, hK, hc0⟩ := Kd.C_get hr z 0 (by omega) (by omega)
  have := ho _ _ hK
  subst this
  have h0 : w.cell? (ad.add (0 * d.sz + 0)) = some ((enc (l.getD 0 z))[0]'(by rw [hlen]; exact hpos)) := hc0 0 _ (List.getElem?_eq_getElem _)
  have hp := addr_plain h0 (by simp)
  refine ⟨ad.block, ad.off, by rw [e]; exact congrArg some hp, ?_, ?_⟩
  · rw [hp] at h0
    simp only [Addr.add, World.cell?] at h0
    simp at h0
    cases hb : w.heap[ad.block]? with
    | none => rw [hb] at h0; cases h0
    | some o => exact (Array.getElem?_eq_some_iff.1 hb).1
  · intro j hj i v hv
    obtain ⟨ad', c', e', _, hK', hc'⟩ := Kd.C_get hr z j (by omega) (by omega)
    obtain rfl : ad = ad' := Option.some.inj (e.symm.trans e')
    have := ho _ _ hK'
    subst this
    have h1 := hc' i v (by simpa [List.getD, List.getElem?_eq_getElem hj] using hv)
    rw [hp] at h1
    subst hk
    simp only [Addr.add, Int.toNat_natCast] at h1
    by_cases h2 : j * d.sz + i = 0
    · rw [if_pos h2] at h1
      rw [Nat.add_assoc, h2]
      exact h1
    · rw [if_neg h2] at h1
      rw [Nat.add_assoc]
      exact h1
end Go.Proofs.YtgjgafibipepeaaGreatDoor.Q
namespace Go.Proofs.YtgjgafibipepeaaGreatDoor.Q
open Go.RowKit Go.Proofs.YtgjgafibipepeaaGreatDoorW.PrintWords Go.Deep Go.Maps Go.WideShapes Go.Lib
open Go.Proofs.YtgjgafibipepeaaGreatDoor.Pr (S39 S41 k39 k41 z39 z41)
open Go.Proofs.YtgjgafibipepeaaGreatDoor
set_option linter.unusedVariables false
set_option linter.unusedSimpArgs false
/-! UNLIKE, AS THE PRINTED REFERENCES SAY IT -/
theorem wrap64_id {x : Int} (h : -9223372036854775808 ≤ x ∧ x ≤ 9223372036854775807) : wrap64 x = x := by
  unfold wrap64
  omega

def eqE (x y : S41) : Bool := x.f0 == y.f0 && ((x.f1.f0.toList == y.f1.f0.toList) && (x.f1.f1.toList == y.f1.f1.toList))
theorem eqE_idx (l : List S41) (hl : l.length < 2147483648) (x : S41) : ∀ (d i k : Nat), i + d = l.length → d < k →
    ∃ r : Int, Pr.api_Entry_74.l0 k l (l.length : Int) (i : Int) x.f0 x.f1.f0 x.f1.f1 = some r ∧ (0 ≤ r ↔ (l.drop i).any (eqE x) = true) := by
  intro d
  induction d with
  | zero =>
    intro i k hi hk
    obtain ⟨k, rfl⟩ : ∃ m, k = m + 1 := ⟨k - 1, by omega⟩
    unfold Pr.api_Entry_74.l0
    rw [if_neg (by omega)]
    exact ⟨-1, rfl, by rw [List.drop_of_length_le (by omega)]; simp⟩
  | succ d ih =>
    intro i k hi hk
    obtain ⟨k, rfl⟩ : ∃ m, k = m + 1 := ⟨k - 1, by omega⟩
    unfold Pr.api_Entry_74.l0
    rw [if_pos (by omega), if_pos (by omega), if_pos (by omega)]
    have hlt : i < l.length := by omega
    have hr : Pr.rd_T41 l (i : Int) = l[i] := by simp [Pr.rd_T41, List.getD, List.getElem?_eq_getElem hlt]
    rw [hr, List.drop_eq_getElem_cons hlt, List.any_cons]
    change ∃ r : Int, (if eqE x l[i] = true then some (i : Int) else _) = some r ∧ _
    by_cases he : eqE x l[i] = true
    · rw [if_pos he]
      exact ⟨i, rfl, by rw [he]; simp⟩
    · rw [if_neg he]
      obtain ⟨r, h1, h2⟩ := ih (i + 1) k (by omega) (by omega)
      rw [show wrap64 ((i : Int) + 1) = ((i + 1 : Nat) : Int) by rw [wrap64_id (by omega)]; omega]
      exact ⟨r, h1, by rw [h2]; simp [he]⟩
theorem eqE_con (l : List S41) (hl : l.length < 2147483648) (x : S41) (k : Nat) (hk : l.length < k) : Pr.api_Entry_39.f k l x.f0 x.f1.f0 x.f1.f1 = some (l.any (eqE x)) := by
  obtain ⟨r, h1, h2⟩ := eqE_idx l hl x l.length 0 k (by omega) hk
  unfold Pr.api_Entry_39.f Pr.api_Entry_74.f
  have h1' : Pr.api_Entry_74.l0 k l (l.length : Int) 0 x.f0 x.f1.f0 x.f1.f1 = some r := h1
  rw [h1', Option.bind_some]
  congr 1
  rw [List.drop_zero] at h2
  cases hb : l.any (eqE x) with
  | true => exact decide_eq_true (h2.2 hb)
  | false => exact decide_eq_false fun h => by rw [h2.1 h] at hb; cases hb
/-- no element from a place on stands ahead of itself -/
def eqE_un (l : List S41) : Nat → Nat → Bool
  | 0, _ => true
  | d + 1, i => !(l.take i).any (eqE (l.getD i z41)) && eqE_un l d (i + 1)
theorem eqE_unl (l : List S41) (hl : l.length < 2147483648) : ∀ (d i k : Nat), i + d = l.length → l.length + d < k →
    Pr.api_Entry_29.l0 k l l (l.length : Int) (i : Int) = some (eqE_un l d i) := by
  intro d
  induction d with
  | zero =>
    intro i k hi hk
    obtain ⟨k, rfl⟩ : ∃ m, k = m + 1 := ⟨k - 1, by omega⟩
    unfold Pr.api_Entry_29.l0
    rw [if_neg (by omega)]
    rfl
  | succ d ih =>
    intro i k hi hk
    obtain ⟨k, rfl⟩ : ∃ m, k = m + 1 := ⟨k - 1, by omega⟩
    unfold Pr.api_Entry_29.l0
    rw [if_pos (by omega), if_pos (by omega), if_pos (by omega), if_pos (by omega)]
    have h1 := eqE_con (l.take i) (by simp; omega) (l.getD i z41) k (by simp; omega)
    rw [show ((i : Int)).toNat = i by simp]
    have h1' : Pr.api_Entry_39.f k (l.take i) (Pr.rd_T41 l (i : Int)).f0 (Pr.rd_T41 l (i : Int)).f1.f0 (Pr.rd_T41 l (i : Int)).f1.f1 = some ((l.take i).any (eqE (l.getD i z41))) := h1
    rw [h1', Option.bind_some, eqE_un]
    cases hb : (l.take i).any (eqE (l.getD i z41)) with
    | true => rw [if_pos rfl]; rfl
    | false =>
      rw [if_neg (by simp), show wrap64 ((i : Int) + 1) = ((i + 1 : Nat) : Int) by rw [wrap64_id (by omega)]; omega, ih (i + 1) k (by omega) (by omega)]
      simp
theorem eqE_f (l : List S41) (hl : l.length < 2147483648) : ∃ k, Pr.api_Entry_29.f k l = some (eqE_un l l.length 0) :=
  ⟨2 * l.length + 1, eqE_unl l hl l.length 0 _ (by omega) (by omega)⟩

def eqI (x y : S39) : Bool := (x.f0.toList == y.f0.toList) && (x.f1.toList == y.f1.toList)
theorem eqI_idx (l : List S39) (hl : l.length < 2147483648) (x : S39) : ∀ (d i k : Nat), i + d = l.length → d < k →
    ∃ r : Int, Pr.api_Id_105.l0 k l (l.length : Int) (i : Int) x.f0 x.f1 = some r ∧ (0 ≤ r ↔ (l.drop i).any (eqI x) = true) := by
  intro d
  induction d with
  | zero =>
    intro i k hi hk
    obtain ⟨k, rfl⟩ : ∃ m, k = m + 1 := ⟨k - 1, by omega⟩
    unfold Pr.api_Id_105.l0
    rw [if_neg (by omega)]
    exact ⟨-1, rfl, by rw [List.drop_of_length_le (by omega)]; simp⟩
  | succ d ih =>
    intro i k hi hk
    obtain ⟨k, rfl⟩ : ∃ m, k = m + 1 := ⟨k - 1, by omega⟩
    unfold Pr.api_Id_105.l0
    rw [if_pos (by omega), if_pos (by omega), if_pos (by omega)]
    have hlt : i < l.length := by omega
    have hr : Pr.rd_T39 l (i : Int) = l[i] := by simp [Pr.rd_T39, List.getD, List.getElem?_eq_getElem hlt]
    rw [hr, List.drop_eq_getElem_cons hlt, List.any_cons]
    change ∃ r : Int, (if eqI x l[i] = true then some (i : Int) else _) = some r ∧ _
    by_cases he : eqI x l[i] = true
    · rw [if_pos he]
      exact ⟨i, rfl, by rw [he]; simp⟩
    · rw [if_neg he]
      obtain ⟨r, h1, h2⟩ := ih (i + 1) k (by omega) (by omega)
      rw [show wrap64 ((i : Int) + 1) = ((i + 1 : Nat) : Int) by rw [wrap64_id (by omega)]; omega]
      exact ⟨r, h1, by rw [h2]; simp [he]⟩
theorem eqI_con (l : List S39) (hl : l.length < 2147483648) (x : S39) (k : Nat) (hk : l.length < k) : Pr.api_Id_69.f k l x.f0 x.f1 = some (l.any (eqI x)) := by
  obtain ⟨r, h1, h2⟩ := eqI_idx l hl x l.length 0 k (by omega) hk
  unfold Pr.api_Id_69.f Pr.api_Id_105.f
  have h1' : Pr.api_Id_105.l0 k l (l.length : Int) 0 x.f0 x.f1 = some r := h1
  rw [h1', Option.bind_some]
  congr 1
  rw [List.drop_zero] at h2
  cases hb : l.any (eqI x) with
  | true => exact decide_eq_true (h2.2 hb)
  | false => exact decide_eq_false fun h => by rw [h2.1 h] at hb; cases hb
/-- no element from a place on stands ahead of itself -/
def eqI_un (l : List S39) : Nat → Nat → Bool
  | 0, _ => true
  | d + 1, i => !(l.take i).any (eqI (l.getD i z39)) && eqI_un l d (i + 1)
theorem eqI_unl (l : List S39) (hl : l.length < 2147483648) : ∀ (d i k : Nat), i + d = l.length → l.length + d < k →
    Pr.api_Id_31.l0 k l l (l.length : Int) (i : Int) = some (eqI_un l d i) := by
  intro d
  induction d with
  | zero =>
    intro i k hi hk
    obtain ⟨k, rfl⟩ : ∃ m, k = m + 1 := ⟨k - 1, by omega⟩
    unfold Pr.api_Id_31.l0
    rw [if_neg (by omega)]
    rfl
  | succ d ih =>
    intro i k hi hk
    obtain ⟨k, rfl⟩ : ∃ m, k = m + 1 := ⟨k - 1, by omega⟩
    unfold Pr.api_Id_31.l0
    rw [if_pos (by omega), if_pos (by omega), if_pos (by omega), if_pos (by omega)]
    have h1 := eqI_con (l.take i) (by simp; omega) (l.getD i z39) k (by simp; omega)
    rw [show ((i : Int)).toNat = i by simp]
    have h1' : Pr.api_Id_69.f k (l.take i) (Pr.rd_T39 l (i : Int)).f0 (Pr.rd_T39 l (i : Int)).f1 = some ((l.take i).any (eqI (l.getD i z39))) := h1
    rw [h1', Option.bind_some, eqI_un]
    cases hb : (l.take i).any (eqI (l.getD i z39)) with
    | true => rw [if_pos rfl]; rfl
    | false =>
      rw [if_neg (by simp), show wrap64 ((i : Int) + 1) = ((i + 1 : Nat) : Int) by rw [wrap64_id (by omega)]; omega, ih (i + 1) k (by omega) (by omega)]
      simp
theorem eqI_f (l : List S39) (hl : l.length < 2147483648) : ∃ k, Pr.api_Id_31.f k l = some (eqI_un l l.length 0) :=
  ⟨2 * l.length + 1, eqI_unl l hl l.length 0 _ (by omega) (by omega)⟩
end Go.Proofs.YtgjgafibipepeaaGreatDoor.Q
namespace Go.Proofs.YtgjgafibipepeaaGreatDoor.Q
open Go.RowKit Go.Proofs.YtgjgafibipepeaaGreatDoorW.PrintWords Go.Deep Go.Maps Go.WideShapes Go.Lib
open Go.Proofs.YtgjgafibipepeaaGreatDoor.Pr (S39 S41 k39 k41 z39 z41)
open Go.Proofs.YtgjgafibipepeaaGreatDoor
set_option linter.unusedVariables false
set_option linter.unusedSimpArgs false
attribute [local go_sem] Oper.semAt_some
/-! CONTAINSFUNC; CHECK, CHECKIDS -/
theorem idxE_none (fv : Value) (A : Option Addr) (c : Nat) (w : World) : Calls Tryz.prog 68 #[.slice A 0 c, fv] w fun e w' => e = .returned (.int .i64 (-1)) ∧ w' = w := by
  go_enter Tryz.func68, Tryz.ntmps68
  go_wp2_with fail
  go_loopw [8] (fun vi wr => vi = .int .i64 0 ∧ wr = w) (fun _ _ => 0)
  case atStart => exact ⟨rfl, rfl⟩
  case round =>
    obtain ⟨rfl, rfl⟩ := hrel
    go_wp2
    go_ret
    exact ⟨rfl, rfl⟩
theorem cfE_none (fv : Value) (A : Option Addr) (c : Nat) (w : World) : Calls Tryz.prog 30 #[.slice A 0 c, fv] w fun e w' => e = .returned (.bool false) ∧ Below w.heap.size w w' := by
  go_enter Tryz.func30, Tryz.ntmps30
  go_wp2_with fail
  refine (idxE_none _ _ _ _).mono ?_
  rintro e w1 ⟨rfl, rfl⟩
  go_wp2
  go_ret
  exact ⟨rfl, Below.refl _ _⟩
theorem idxI_none (fv : Value) (A : Option Addr) (c : Nat) (w : World) : Calls Tryz.prog 70 #[.slice A 0 c, fv] w fun e w' => e = .returned (.int .i64 (-1)) ∧ w' = w := by
  go_enter Tryz.func70, Tryz.ntmps70
  go_wp2_with fail
  go_loopw [8] (fun vi wr => vi = .int .i64 0 ∧ wr = w) (fun _ _ => 0)
  case atStart => exact ⟨rfl, rfl⟩
  case round =>
    obtain ⟨rfl, rfl⟩ := hrel
    go_wp2
    go_ret
    exact ⟨rfl, rfl⟩
theorem cfI_none (fv : Value) (A : Option Addr) (c : Nat) (w : World) : Calls Tryz.prog 32 #[.slice A 0 c, fv] w fun e w' => e = .returned (.bool false) ∧ Below w.heap.size w w' := by
  go_enter Tryz.func32, Tryz.ntmps32
  go_wp2_with fail
  refine (idxI_none _ _ _ _).mono ?_
  rintro e w1 ⟨rfl, rfl⟩
  go_wp2
  go_ret
  exact ⟨rfl, Below.refl _ _⟩
theorem anyE_calls (p : S41 → Bool) (g : Nat) (lb : Array Value) (eg : ∀ args w, (callFunc g args).run Tryz.prog w = .ok (.enter g args) w) (A : Option Addr) (c : Nat) (l : List S41) (w : World)
    (hp : PredBelow Tryz.prog g lb (fun x : {x : S41 // smE x} => .agg (encE x.1).toArray) (fun x => p x.1) w) (hr : Kd.C k41 w A l.length l) (hsm : ∀ x ∈ l, smE x) (hl : l.length < 2147483648) :
    Calls Tryz.prog 30 #[.slice A l.length c, .func (.func g) #[] lb] w fun e w' => e = .returned (.bool (l.any p)) ∧ Below w.heap.size w w' := by
  cases l with
  | nil => exact cfE_none _ A c w
  | cons a r =>
    generalize hL : a :: r = l at hr hsm hl ⊢
    obtain ⟨b, off, rfl, hb, hcell⟩ := rows_of encE 3 z41 hr rfl (by omega) (fun x cs h => Pr.k41_open h) (fun _ => rfl) (by rw [← hL]; simp)
    obtain ⟨zs, hz⟩ := lift_list l hsm
    have hzl : zs.length = l.length := by rw [← hz]; simp
    have K := AnyQ.slices_ContainsFunc Tryz.cfE 3 Tryz.isAgg41 Tryz.sizeOf41 (fun x : {x : S41 // smE x} => encE x.1) (fun _ => rfl) (fun x => p x.1) g lb eg b off l.length c zs w hp (by omega) (by omega) hb (fun j hj i v hv => by
      have hj' : j < l.length := by omega
      have e : l[j] = (zs[j]!).1 := by
        have : l[j]? = (zs[j]?).map (·.1) := by rw [← hz]; simp
        rw [List.getElem?_eq_getElem hj', List.getElem?_eq_getElem hj] at this
        rw [getElem!_pos zs j hj]
        simpa using this
      exact hcell j hj' i v (by rw [e]; exact hv))
    refine K.mono fun e w' ⟨he, hbw⟩ => ⟨?_, hbw⟩
    rw [he, List.take_of_length_le (by omega), ← hz, List.any_map]
    rfl
theorem anyI_calls (p : S39 → Bool) (g : Nat) (lb : Array Value) (eg : ∀ args w, (callFunc g args).run Tryz.prog w = .ok (.enter g args) w) (A : Option Addr) (c : Nat) (l : List S39) (w : World)
    (hp : PredBelow Tryz.prog g lb (fun x : {x : S39 // smI x} => .agg (encI x.1).toArray) (fun x => p x.1) w) (hr : Kd.C k39 w A l.length l) (hsm : ∀ x ∈ l, smI x) (hl : l.length < 2147483648) :
    Calls Tryz.prog 32 #[.slice A l.length c, .func (.func g) #[] lb] w fun e w' => e = .returned (.bool (l.any p)) ∧ Below w.heap.size w w' := by
  cases l with
  | nil => exact cfI_none _ A c w
  | cons a r =>
    generalize hL : a :: r = l at hr hsm hl ⊢
    obtain ⟨b, off, rfl, hb, hcell⟩ := rows_of encI 2 z39 hr rfl (by omega) (fun x cs h => Pr.k39_open h) (fun _ => rfl) (by rw [← hL]; simp)
    obtain ⟨zs, hz⟩ := lift_list l hsm
    have hzl : zs.length = l.length := by rw [← hz]; simp
    have K := AnyQ.slices_ContainsFunc Tryz.cfI 2 Tryz.isAgg39 Tryz.sizeOf39 (fun x : {x : S39 // smI x} => encI x.1) (fun _ => rfl) (fun x => p x.1) g lb eg b off l.length c zs w hp (by omega) (by omega) hb (fun j hj i v hv => by
      have hj' : j < l.length := by omega
      have e : l[j] = (zs[j]!).1 := by
        have : l[j]? = (zs[j]?).map (·.1) := by rw [← hz]; simp
        rw [List.getElem?_eq_getElem hj', List.getElem?_eq_getElem hj] at this
        rw [getElem!_pos zs j hj]
        simpa using this
      exact hcell j hj' i v (by rw [e]; exact hv))
    refine K.mono fun e w' ⟨he, hbw⟩ => ⟨?_, hbw⟩
    rw [he, List.take_of_length_le (by omega), ← hz, List.any_map]
    rfl
/-! CHECK -/
def checkIB (l : List S39) : Bool := decide (l.length ≤ 4) && (eqI_un l l.length 0 && !(l.any fun x => !cli x))
def checkB (l : List S41) : Bool := decide (l.length ≤ 4) && (eqE_un l l.length 0 && !(l.any fun x => !ent x))
def errV (ok : Bool) : Value := .int .i64 (if ok then 0 else 60)
theorem wrongI (w : World) (hE : Env w) : PredBelow Tryz.prog 33 #[] (fun x : {x : S39 // smI x} => .agg (encI x.1).toArray) (fun x => !cli x.1) w := fun W x hb =>
  (checkIds1_calls x.1 W x.2 (hE.below hb)).mono fun e w' ⟨he, h⟩ => ⟨he, below_step hb h⟩
theorem wrongE (w : World) (hE : Env w) : PredBelow Tryz.prog 27 #[] (fun x : {x : S41 // smE x} => .agg (encE x.1).toArray) (fun x => !ent x.1) w := fun W x hb =>
  (check1_calls x.1 W x.2 (hE.below hb)).mono fun e w' ⟨he, h⟩ => ⟨he, below_step hb h⟩
end Go.Proofs.YtgjgafibipepeaaGreatDoor.Q
namespace Go.Proofs.YtgjgafibipepeaaGreatDoor.Q
open Go.RowKit Go.Proofs.YtgjgafibipepeaaGreatDoorW.PrintWords Go.Deep Go.Maps Go.WideShapes Go.Lib
open Go.Proofs.YtgjgafibipepeaaGreatDoor.Pr (S39 S41 k39 k41 z39 z41)
open Go.Proofs.YtgjgafibipepeaaGreatDoor
set_option linter.unusedVariables false
set_option linter.unusedSimpArgs false
attribute [local go_sem] Oper.semAt_some
/-! CHECK, CHECKIDS: THE WALKS -/

set_option maxHeartbeats 2000000 in
theorem checkIds_calls (A : Option Addr) (c : Nat) (l : List S39) (w : World) (hr : Kd.C k39 w A l.length l) (hc : l.length ≤ c) (hsm : ∀ x ∈ l, smI x) (hl : l.length < 2147483648) (hE : Env w) :
    Calls Tryz.prog 10 #[.slice A l.length c] w fun e w' => e = .returned (errV (checkIB l)) ∧ Below w.heap.size w w' := by
  have HR := Lib.hid hr
  obtain ⟨k, hk⟩ := eqI_f l hl
  have K1 := Lib.hid (Pr.api_Id_31.calls k A c l _ w hr hc hk)
  have K2 : Hid (∀ W, Below w.heap.size w W → Calls Tryz.prog 32 #[.slice A l.length c, .func (.func 33) #[] #[]] W fun e w' => e = .returned (.bool (l.any fun x => !cli x)) ∧ Below W.heap.size W w') := Lib.hid fun W hb =>
    anyI_calls (fun x => !cli x) 33 #[] (enters_of Tryz.func33 (by kernel_rfl) rfl) A c l W (wrongI W (hE.below hb)) (Kd.C_below hr hb) hsm hl
  unfold checkIB
  generalize eqI_un l l.length 0 = b1 at K1 ⊢
  generalize (l.any fun x => !cli x) = b2 at K2 ⊢
  generalize hn : l.length = n at K1 K2 ⊢
  rw [hn] at hl hc
  clear hk hE hsm hr HR hn
  by_cases h4 : n ≤ 4
  · have q1 : decide ((4 : Int) < (n : Int)) = false := decide_eq_false (by omega)
    have r1 : decide (n ≤ 4) = true := decide_eq_true h4
    rw [r1]
    cases b1
    · go_enter Tryz.func10, Tryz.ntmps10
      go_wp2_with fail
      refine K1.out.mono ?_
      rintro e w1 ⟨rfl, hB1⟩
      have HB1 := Lib.hid hB1
      clear hB1 K1 K2
      go_wp2
      go_ret
      exact ⟨rfl, HB1.out⟩
    · go_enter Tryz.func10, Tryz.ntmps10
      go_wp2_with fail
      refine K1.out.mono ?_
      rintro e w1 ⟨rfl, hB1⟩
      have HB1 := Lib.hid hB1
      have K3 := Lib.hid (K2.out w1 hB1)
      clear hB1 K1 K2
      go_wp2_with fail
      refine K3.out.mono ?_
      rintro e w2 ⟨rfl, hB2⟩
      have HB2 := Lib.hid (below_step HB1.out hB2)
      clear hB2 K3 HB1
      cases b2
      · go_wp2
        go_ret
        exact ⟨rfl, HB2.out⟩
      · go_wp2
        go_ret
        exact ⟨rfl, HB2.out⟩
  · have q1 : decide ((4 : Int) < (n : Int)) = true := decide_eq_true (by omega)
    have r1 : decide (n ≤ 4) = false := decide_eq_false h4
    rw [r1]
    clear K1 K2
    go_enter Tryz.func10, Tryz.ntmps10
    go_wp2
    go_ret
    exact ⟨rfl, Below.refl _ _⟩

set_option maxHeartbeats 2000000 in
theorem check_calls (A : Option Addr) (c : Nat) (l : List S41) (w : World) (hr : Kd.C k41 w A l.length l) (hc : l.length ≤ c) (hsm : ∀ x ∈ l, smE x) (hl : l.length < 2147483648) (hE : Env w) :
    Calls Tryz.prog 9 #[.slice A l.length c] w fun e w' => e = .returned (errV (checkB l)) ∧ Below w.heap.size w w' := by
  have HR := Lib.hid hr
  obtain ⟨k, hk⟩ := eqE_f l hl
  have K1 := Lib.hid (Pr.api_Entry_29.calls k A c l _ w hr hc hk)
  have K2 : Hid (∀ W, Below w.heap.size w W → Calls Tryz.prog 30 #[.slice A l.length c, .func (.func 27) #[] #[]] W fun e w' => e = .returned (.bool (l.any fun x => !ent x)) ∧ Below W.heap.size W w') := Lib.hid fun W hb =>
    anyE_calls (fun x => !ent x) 27 #[] (enters_of Tryz.func27 (by kernel_rfl) rfl) A c l W (wrongE W (hE.below hb)) (Kd.C_below hr hb) hsm hl
  unfold checkB
  generalize eqE_un l l.length 0 = b1 at K1 ⊢
  generalize (l.any fun x => !ent x) = b2 at K2 ⊢
  generalize hn : l.length = n at K1 K2 ⊢
  rw [hn] at hl hc
  clear hk hE hsm hr HR hn
  by_cases h4 : n ≤ 4
  · have q1 : decide ((4 : Int) < (n : Int)) = false := decide_eq_false (by omega)
    have r1 : decide (n ≤ 4) = true := decide_eq_true h4
    rw [r1]
    cases b1
    · go_enter Tryz.func9, Tryz.ntmps9
      go_wp2_with fail
      refine K1.out.mono ?_
      rintro e w1 ⟨rfl, hB1⟩
      have HB1 := Lib.hid hB1
      clear hB1 K1 K2
      go_wp2
      go_ret
      exact ⟨rfl, HB1.out⟩
    · go_enter Tryz.func9, Tryz.ntmps9
      go_wp2_with fail
      refine K1.out.mono ?_
      rintro e w1 ⟨rfl, hB1⟩
      have HB1 := Lib.hid hB1
      have K3 := Lib.hid (K2.out w1 hB1)
      clear hB1 K1 K2
      go_wp2_with fail
      refine K3.out.mono ?_
      rintro e w2 ⟨rfl, hB2⟩
      have HB2 := Lib.hid (below_step HB1.out hB2)
      clear hB2 K3 HB1
      cases b2
      · go_wp2
        go_ret
        exact ⟨rfl, HB2.out⟩
      · go_wp2
        go_ret
        exact ⟨rfl, HB2.out⟩
  · have q1 : decide ((4 : Int) < (n : Int)) = true := decide_eq_true (by omega)
    have r1 : decide (n ≤ 4) = false := decide_eq_false h4
    rw [r1]
    clear K1 K2
    go_enter Tryz.func9, Tryz.ntmps9
    go_wp2
    go_ret
    exact ⟨rfl, Below.refl _ _⟩
end Go.Proofs.YtgjgafibipepeaaGreatDoor.Q
