import Derived.Test.YtcilfjmiiodfgaaDoorH
import Derived.Test.YtcilfjmiiodfgaaDoorA6
import Derived.Test.YtcilfjmiiodfgaaDoorA7
import Derived.Test.YtcilfjmiiodfgaaDoorA8
namespace Go.Proofs.YtcilfjmiiodfgaaDoor.Q
open Go.RowKit Go.Shelf Go.Proofs.YtcilfjmiiodfgaaDoorW.PrintWords Go.Proofs.YtcilfjmiiodfgaaDoor.Pr
set_option linter.unusedVariables false
set_option linter.unusedSimpArgs false

/-! THE LAST SLASH -/
def lastTo (p : ByteArray) : Nat → Nat
  | 0 => 0
  | k + 1 => if (p.get! k).toNat = 47 then k else lastTo p k
theorem lastTo_le (p : ByteArray) (k : Nat) : lastTo p k ≤ k := by
  induction k with
  | zero => exact Nat.le_refl _
  | succ k ih => rw [lastTo]; split <;> omega
theorem lastTo_spec (p : ByteArray) (k : Nat) (h0 : slash p) (hk : 0 < k) : lastTo p k < k ∧ (p.get! (lastTo p k)).toNat = 47 ∧ ∀ j, lastTo p k < j → j < k → (p.get! j).toNat ≠ 47 := by
  induction k with
  | zero => omega
  | succ k ih =>
    rw [lastTo]
    by_cases h : (p.get! k).toNat = 47
    · rw [if_pos h]; exact ⟨by omega, h, fun j h1 h2 => by omega⟩
    · rw [if_neg h]
      rcases Nat.eq_zero_or_pos k with h1 | h1
      · subst h1; exact absurd h0.2 h
      · obtain ⟨a, b, c⟩ := ih h1
        refine ⟨by omega, b, fun j h2 h3 => ?_⟩
        by_cases e : j = k
        · subst e; exact h
        · exact c j h2 (by omega)
theorem last_is (p : ByteArray) (h0 : slash p) {i : Nat} (hi : i < p.size) (h1 : (p.get! i).toNat = 47) (h2 : ∀ j, i < j → j < p.size → (p.get! j).toNat ≠ 47) : lastTo p p.size = i := by
  obtain ⟨a, b, c⟩ := lastTo_spec p p.size h0 h0.1
  by_cases h3 : lastTo p p.size < i
  · exact absurd h1 (c i h3 hi)
  · by_cases h4 : i < lastTo p p.size
    · exact absurd b (h2 _ h4 a)
    · omega
theorem get_data (p : ByteArray) (i : Nat) (h : i < p.size) : p.data[i]! = p.get! i := by
  cases p with
  | mk d => rfl
theorem lastIndex_is (p : ByteArray) (h0 : slash p) : Lib.lastIndexByte p 47 = (lastTo p p.size : Nat) := by
  rcases Lib.lastIdx_spec p 47 p.size with ⟨_, h⟩ | ⟨i, hi, he, h1, h2⟩
  · have := h 0 h0.1
    rw [get_data p 0 h0.1] at this
    exact absurd (by have := h0.2; omega) this
  · unfold Lib.lastIndexByte
    rw [he]
    rw [get_data p i hi] at h1
    rw [last_is p h0 hi (by omega) (fun j h3 h4 h5 => by
      have := h2 j h3 h4
      rw [get_data p j h4] at this
      omega)]
theorem last_l0 (p : ByteArray) (hs : p.size ≤ 4294967296) : ∀ n i k, p.size - i ≤ n → i ≤ p.size → 1 + n ≤ k → lagoonref05_last.l0 k p ((lastTo p i : Nat) : Int) (i : Nat) = some ((lastTo p p.size : Nat) : Int) := by
  intro n
  induction n with
  | zero =>
    intro i k hi h1 hk
    obtain ⟨k, rfl⟩ : ∃ j, k = j + 1 := ⟨k - 1, by omega⟩
    rw [lagoonref05_last.l0, if_neg (by omega), show i = p.size by omega]
  | succ n ih =>
    intro i k hi h1 hk
    obtain ⟨k, rfl⟩ : ∃ j, k = j + 1 := ⟨k - 1, by omega⟩
    by_cases h : i < p.size
    · have := ih (i + 1) k (by omega) (by omega) (by omega)
      rw [lastTo] at this
      rw [lagoonref05_last.l0, if_pos (by omega), if_pos (by omega), bt_get p i h, w64 (by omega) (by omega)]
      by_cases h2 : (p.get! i).toNat = 47
      · rw [if_pos (by omega)]; rw [if_pos h2] at this; exact this
      · rw [if_neg (by omega)]; rw [if_neg h2] at this; exact this
    · rw [lagoonref05_last.l0, if_neg (by omega), show i = p.size by omega]
theorem last_f (p : ByteArray) (hs : p.size ≤ 4294967296) (k : Nat) (hk : p.size + 1 ≤ k) : lagoonref05_last.f k p = some ((lastTo p p.size : Nat) : Int) := by
  unfold lagoonref05_last.f
  exact last_l0 p hs p.size 0 k (by omega) (by omega) (by omega)
theorem isP_slash {p : ByteArray} (h : isP p = true) : slash p := by
  unfold isP at h
  simp only [Bool.and_eq_true, decide_eq_true_eq] at h
  exact h.1.2
theorem isP_size {p : ByteArray} (h : isP p = true) : p.size ≤ 64 := by
  unfold isP at h
  simp only [Bool.and_eq_true, decide_eq_true_eq] at h
  exact h.1.1

/-! PARENT, BASE -/
def empty : ByteArray := ⟨#[]⟩
def rootB : ByteArray := ⟨#[47]⟩
def parentP (p : ByteArray) : ByteArray := if isP p = true ∧ ¬ p.toList = [47] then (if lastTo p p.size = 0 then rootB else p.extract 0 (lastTo p p.size)) else empty
def baseP (p : ByteArray) : ByteArray := if isP p = true then p.extract (lastTo p p.size + 1) p.size else empty
theorem refParent_f (p : ByteArray) (hs : p.size ≤ 2147483648) (k : Nat) (hk : 4 * p.size + 60 ≤ k) : lagoonref05_Parent.f k p = some (parentP p) := by
  obtain ⟨k, rfl⟩ : ∃ j, k = j + 1 := ⟨k - 1, by omega⟩
  have hT : lagoonref05_Parent.j0 (k + 1) p true = some empty := by rw [lagoonref05_Parent.j0, if_pos rfl]; rfl
  have hF : lagoonref05_Parent.j0 (k + 1) p false = some (if lastTo p p.size = 0 then rootB else p.extract 0 (lastTo p p.size)) := by
    have hl := lastTo_le p p.size
    rw [lagoonref05_Parent.j0, if_neg (by simp), last_f p (by omega) k (by omega), Option.bind_some]
    by_cases h : lastTo p p.size = 0
    · rw [if_pos (by omega), if_pos h]; rfl
    · rw [if_neg (by omega), if_pos (by omega), if_pos (by omega), if_neg h]; rfl
  unfold lagoonref05_Parent.f parentP
  rw [is_f p (by omega) _ (by omega), Option.bind_some]
  cases hi : isP p with
  | false => rw [if_neg (by simp), hT, if_neg (by simp)]
  | true =>
    rw [if_pos rfl]
    by_cases hr : p.toList = [47]
    · rw [beq_iff_eq.mpr hr, hT, if_neg (fun x => x.2 hr)]
    · rw [beq_eq_false_iff_ne.mpr hr, hF, if_pos (show true = true ∧ ¬ p.toList = [47] from ⟨rfl, hr⟩)]
theorem refBase_f (p : ByteArray) (hs : p.size ≤ 2147483648) (k : Nat) (hk : 4 * p.size + 60 ≤ k) : lagoonref05_Base.f k p = some (baseP p) := by
  have hl := lastTo_le p p.size
  unfold lagoonref05_Base.f baseP
  rw [is_f p (by omega) _ (by omega), Option.bind_some]
  cases hi : isP p with
  | false => rw [if_neg (by simp), if_neg (by simp)]; rfl
  | true =>
    obtain ⟨a, b, c⟩ := lastTo_spec p p.size (isP_slash hi) (isP_slash hi).1
    rw [if_pos rfl, if_pos rfl, last_f p (by omega) k (by omega), Option.bind_some, w64 (by omega) (by omega), if_pos (by omega), if_pos (by omega)]
    rfl
theorem refParent_calls (p : ByteArray) (w : World) (hs : p.size ≤ 2147483648) : Calls Tryd.prog 23 #[.string p] w fun e w' => e = .returned (.string (parentP p)) ∧ Below w.heap.size w w' :=
  lagoonref05_Parent.calls (4 * p.size + 60) p _ w (refParent_f p hs _ (Nat.le_refl _))
theorem refBase_calls (p : ByteArray) (w : World) (hs : p.size ≤ 2147483648) : Calls Tryd.prog 24 #[.string p] w fun e w' => e = .returned (.string (baseP p)) ∧ Below w.heap.size w w' :=
  lagoonref05_Base.calls (4 * p.size + 60) p _ w (refBase_f p hs _ (Nat.le_refl _))

/-! THE PROGRAM'S -/
theorem is_calls (p : ByteArray) (w : World) (hs : p.size ≤ 2147483648) (hT : Tabs w) : Calls Tryd.prog 35 #[.string p] w fun e w' => e = .returned (.bool (isP p)) ∧ Below w.heap.size w w' := by
  have HK := Lib.hid (check_calls p w hs hT)
  cases hi : isP p with
  | true =>
    have hc := checkP_ok p hi
    rw [hc] at HK
    go_enter Tryd.func35, Tryd.ntmps35
    go_wp2_with fail
    refine HK.out.mono ?_
    rintro e w1 ⟨rfl, hB⟩
    have HB := Lib.hid hB
    clear hB
    go_wp2
    go_ret
    exact ⟨rfl, HB.out⟩
  | false =>
    have hc := checkP_no p hi
    rw [hc] at HK
    obtain ⟨x, hx⟩ : ∃ x, (checkP p).1 = x := ⟨_, rfl⟩
    rw [hx] at HK
    clear hx
    go_enter Tryd.func35, Tryd.ntmps35
    go_wp2_with fail
    refine HK.out.mono ?_
    rintro e w1 ⟨rfl, hB⟩
    have HB := Lib.hid hB
    clear hB
    go_wp2
    go_ret
    exact ⟨rfl, HB.out⟩
theorem parent_calls (p : ByteArray) (w : World) (hs : p.size ≤ 2147483648) (hT : Tabs w) : Calls Tryd.prog 20 #[.string p] w fun e w' => e = .returned (.string (parentP p)) ∧ Below w.heap.size w w' := by
  have KI := is_calls p w hs hT
  cases hi : isP p with
  | false =>
    rw [hi] at KI
    have HK := Lib.hid KI
    have HP : Hid (parentP p = empty) := Lib.hid (by unfold parentP; rw [if_neg (by simp [hi])])
    clear KI hi hT
    go_enter Tryd.func20, Tryd.ntmps20
    go_wp2_with fail
    refine HK.out.mono ?_
    rintro e w1 ⟨rfl, hB⟩
    have HB := Lib.hid hB
    clear hB
    go_wp2
    go_ret
    exact ⟨by rw [HP.out]; rfl, HB.out⟩
  | true =>
    rw [hi] at KI
    have HK := Lib.hid KI
    have hsl := isP_slash hi
    by_cases hr : p.toList = [47]
    · have HP : Hid (parentP p = empty) := Lib.hid (by unfold parentP; rw [if_neg (fun x => x.2 hr)])
      have c1 : (p.toList == [47]) = true := beq_iff_eq.mpr hr
      clear KI hi hT hsl
      go_enter Tryd.func20, Tryd.ntmps20
      go_wp2_with fail
      refine HK.out.mono ?_
      rintro e w1 ⟨rfl, hB⟩
      have HB := Lib.hid hB
      clear hB
      go_wp2
      go_ret
      exact ⟨by rw [HP.out]; rfl, HB.out⟩
    · have c1 : (p.toList == [47]) = false := beq_eq_false_iff_ne.mpr hr
      have hP : parentP p = if lastTo p p.size = 0 then rootB else p.extract 0 (lastTo p p.size) := by unfold parentP; rw [if_pos ⟨hi, hr⟩]
      have KL := fun w => Tryd.strings_LastIndexByte p 47 (by omega) w
      rw [lastIndex_is p hsl] at KL
      have hl := lastTo_le p p.size
      obtain ⟨n, hn⟩ : ∃ n, lastTo p p.size = n := ⟨_, rfl⟩
      rw [hn] at hP KL hl
      have HKL := Lib.hid KL
      have HP := Lib.hid hP
      clear KI KL hP hi hT hsl hn hr
      go_enter Tryd.func20, Tryd.ntmps20
      go_wp2_with fail
      refine HK.out.mono ?_
      rintro e w1 ⟨rfl, hB⟩
      have HB := Lib.hid hB
      clear hB
      go_wp2_with fail
      refine (HKL.out w1).mono ?_
      rintro e w2 ⟨rfl, rfl⟩
      by_cases h0 : n = 0
      · subst h0
        go_wp2
        go_ret
        exact ⟨by rw [HP.out]; rfl, HB.out⟩
      · have h0' : 0 < n := by omega
        go_wp2
        go_ret
        exact ⟨by rw [HP.out, if_neg h0]; rfl, HB.out⟩
theorem base_calls (p : ByteArray) (w : World) (hs : p.size ≤ 2147483648) (hT : Tabs w) : Calls Tryd.prog 21 #[.string p] w fun e w' => e = .returned (.string (baseP p)) ∧ Below w.heap.size w w' := by
  have KI := is_calls p w hs hT
  cases hi : isP p with
  | false =>
    rw [hi] at KI
    have HK := Lib.hid KI
    have HP : Hid (baseP p = empty) := Lib.hid (by unfold baseP; rw [if_neg (by simp [hi])])
    clear KI hi hT
    go_enter Tryd.func21, Tryd.ntmps21
    go_wp2_with fail
    refine HK.out.mono ?_
    rintro e w1 ⟨rfl, hB⟩
    have HB := Lib.hid hB
    clear hB
    go_wp2
    go_ret
    exact ⟨by rw [HP.out]; rfl, HB.out⟩
  | true =>
    rw [hi] at KI
    have HK := Lib.hid KI
    have hsl := isP_slash hi
    have hP : baseP p = p.extract (lastTo p p.size + 1) p.size := by unfold baseP; rw [if_pos hi]
    have KL := fun w => Tryd.strings_LastIndexByte p 47 (by omega) w
    rw [lastIndex_is p hsl] at KL
    have hl := (lastTo_spec p p.size hsl hsl.1).1
    obtain ⟨n, hn⟩ : ∃ n, lastTo p p.size = n := ⟨_, rfl⟩
    rw [hn] at hP KL hl
    have HKL := Lib.hid KL
    have HP := Lib.hid hP
    clear KI KL hP hi hT hsl hn
    go_enter Tryd.func21, Tryd.ntmps21
    go_wp2_with fail
    refine HK.out.mono ?_
    rintro e w1 ⟨rfl, hB⟩
    have HB := Lib.hid hB
    clear hB
    go_wp2_with fail
    refine (HKL.out w1).mono ?_
    rintro e w2 ⟨rfl, rfl⟩
    go_wp2
    go_ret
    exact ⟨by rw [HP.out]; rfl, HB.out⟩
end Go.Proofs.YtcilfjmiiodfgaaDoor.Q
