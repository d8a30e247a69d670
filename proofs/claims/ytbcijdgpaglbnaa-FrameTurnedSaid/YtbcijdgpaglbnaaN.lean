import Derived.Test.YtbcijdgpaglbnaaM
namespace Go.Proofs.Ytbcijdgpaglbnaa.Q
open Go.RowKit Go.Proofs.YtbcijdgpaglbnaaW.PrintWords Go.Deep Go.Sort
set_option linter.unusedVariables false
set_option linter.unusedSimpArgs false

/-! MANY BODIES -/
/-- a slice of slices of bytes -/
def RdBs (w : World) (A : Option Addr) (Ls : List (List Nat)) (f : Nat → Option Addr × Nat) : Prop :=
  Ls.length ≤ 9223372036854775807 ∧ (0 < Ls.length → ∃ b o, A = some ⟨b, o, none⟩ ∧ ∀ i, i < Ls.length → w.cell? ⟨b, o + i, none⟩ = some (.slice (f i).1 (Ls.getD i []).length (f i).2) ∧ RdB w (f i).1 (Ls.getD i []))
theorem RdBs.below {w w' : World} {A : Option Addr} {Ls : List (List Nat)} {f : Nat → Option Addr × Nat} (h : RdBs w A Ls f) (hB : Below w.heap.size w w') : RdBs w' A Ls f :=
  ⟨h.1, fun hp => by obtain ⟨b, o, ha, hc⟩ := h.2 hp; exact ⟨b, o, ha, fun i hi => ⟨pw_cell_below hB (hc i hi).1, (hc i hi).2.below hB⟩⟩⟩
/-- the frames' lengths, or one more each, together -/
def total (Ls : List (List Nat)) : Nat → Nat
  | 0 => 0
  | k + 1 => total Ls k + 10 + (Ls.getD k []).length
def LongPost (Ls : List (List Nat)) (w : World) (e : Ending) (w' : World) : Prop := w = w' ∧ ∃ q, e = .returned (.bool q) ∧ (q = false → total Ls Ls.length ≤ 1073741823)
set_option maxHeartbeats 2000000 in
theorem long_calls (A : Option Addr) (c : Nat) (Ls : List (List Nat)) (f : Nat → Option Addr × Nat) (w : World) (hr : RdBs w A Ls f) :
    Calls Try.prog 6 #[.slice A Ls.length c] w (LongPost Ls w) := by
  have hl := hr.1
  have HR := Lib.hid hr.2
  clear hr
  go_enter Try.func6, Try.ntmps6
  go_wp2
  go_loop [3, 4] (fun n i => ∃ k : Nat, k ≤ Ls.length ∧ i = .int .i64 k ∧ n = .int .i64 (total Ls k : Nat) ∧ total Ls k ≤ 2147483660) (fun _ i => Ls.length - (intOf i).toNat)
  case atStart => exact ⟨0, by omega, rfl, rfl, by simp [total]⟩
  case round =>
    obtain ⟨k, hk, rfl, rfl, hn⟩ := hrel
    have T1 : Hid (total Ls (k + 1) = total Ls k + 10 + (Ls.getD k []).length) := Lib.hid rfl
    obtain ⟨n, en⟩ : ∃ n, total Ls k = n := ⟨_, rfl⟩
    rw [en] at hn T1 ⊢
    by_cases hlt : k < Ls.length
    · obtain ⟨b, o, rfl, hc⟩ := HR.out (by omega)
      have x0 := (hc k hlt).1
      have hm := (hc k hlt).2.1
      obtain ⟨m, em⟩ : ∃ m, (Ls.getD k []).length = m := ⟨_, rfl⟩
      rw [em] at x0 hm T1
      obtain ⟨fa, efa⟩ : ∃ x, (f k).1 = x := ⟨_, rfl⟩
      obtain ⟨fc, efc⟩ : ∃ x, (f k).2 = x := ⟨_, rfl⟩
      rw [efa, efc] at x0
      clear hc em efa efc
      by_cases h1 : n ≤ 1073741823
      · by_cases h2 : 1073741823 < m
        · clear en
          go_wp2
          go_ret
          exact ⟨rfl, _, rfl, fun h => by cases h⟩
        · clear en
          go_wp2
          exact ⟨⟨k + 1, by omega, by go_num, by rw [T1.out]; congr 1 <;> omega, by rw [T1.out]; omega⟩, by simp [intOf]; omega⟩
      · have EN := Lib.hid en
        clear en
        go_wp2
        go_ret
        exact ⟨rfl, _, rfl, fun h => by simp at h⟩
    · obtain rfl : k = Ls.length := by omega
      have EN := Lib.hid en
      clear en
      by_cases h1 : n ≤ 1073741823
      · go_wp2
        go_ret
        exact ⟨rfl, _, rfl, fun h => by rw [EN.out]; exact h1⟩
      · go_wp2
        go_ret
        exact ⟨rfl, _, rfl, fun h => by simp at h; omega⟩
theorem is_calls (A : Option Addr) (c : Nat) (n : Nat) (w : World) :
    Calls Try.prog 15 #[.slice A n c] w fun e w' => e = .returned (.bool (decide (1 ≤ n ∧ n ≤ 1048576))) ∧ w = w' := by
  by_cases h1 : 1 ≤ n
  · by_cases h2 : n ≤ 1048576
    · have hd : decide (1 ≤ n ∧ n ≤ 1048576) = true := by simp [h1, h2]
      rw [hd]
      go_enter Try.func15, Try.ntmps15
      go_wp2
      go_ret
      exact ⟨by simp; omega, rfl⟩
    · have hd : decide (1 ≤ n ∧ n ≤ 1048576) = false := by simp [h1, h2]
      rw [hd]
      go_enter Try.func15, Try.ntmps15
      go_wp2
      go_ret
      exact ⟨by simp; omega, rfl⟩
  · have hd : decide (1 ≤ n ∧ n ≤ 1048576) = false := by simp [h1]
    rw [hd]
    go_enter Try.func15, Try.ntmps15
    go_wp2
    go_ret
    exact ⟨rfl, rfl⟩
end Go.Proofs.Ytbcijdgpaglbnaa.Q
