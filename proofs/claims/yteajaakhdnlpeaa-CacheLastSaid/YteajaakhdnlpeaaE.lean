import Derived.Test.YteajaakhdnlpeaaD
namespace Go.Proofs.Yteajaakhdnlpeaa.Q
open Go.RowKit Go.Proofs.YteajaakhdnlpeaaW.PrintWords Go.Deep
set_option linter.unusedVariables false
set_option linter.unusedSimpArgs false

/-- a slice of texts that reads as xs -/
def RdT (w : World) (A : Option Addr) (xs : List ByteArray) : Prop := xs.length ≤ 9223372036854775807 ∧ (0 < xs.length → ∃ a, A = some a ∧ ∀ i, i < xs.length → w.cell? (a.add i) = some (.string (xs.getD i ⟨#[]⟩)))
theorem RdT.below {w w' : World} {A : Option Addr} {xs : List ByteArray} (h : RdT w A xs) (hB : Below w.heap.size w w') : RdT w' A xs :=
  ⟨h.1, fun hp => by obtain ⟨a, ha, hc⟩ := h.2 hp; exact ⟨a, ha, fun i hi => pw_cell_below hB (hc i hi)⟩⟩
def strs (xs : List ByteArray) : List Value := xs.map Value.string
theorem take_one {α : Type} (xs : List α) (k : Nat) (d : α) (h : k < xs.length) : xs.take (k + 1) = xs.take k ++ [xs.getD k d] := by
  rw [List.take_succ_eq_append_getElem h]
  simp [List.getD_eq_getElem?_getD, h]
/-- what At tells behind the k-th Put -/
theorem last_at (m k i : Nat) (xs : List ByteArray) (hk : k < xs.length) (n : Nat) (hn : n = min m (k + 1)) (hi : i < n) :
    (lastN m (strs (xs.take (k + 1)))).getD i .nilFunc = .string (xs.getD (k + 1 - n + i) ⟨#[]⟩) := by
  have hl : (strs (xs.take (k + 1))).length = k + 1 := by simp [strs]; omega
  simp only [lastN, hl]
  have e : k + 1 - m + i = k + 1 - n + i := by omega
  rw [List.getD_eq_getElem?_getD, List.getElem?_drop, e]
  have h2 : k + 1 - n + i < k + 1 := by omega
  simp only [strs, List.getElem?_map, List.getElem?_take, h2, if_true]
  rw [List.getElem?_eq_getElem (by omega)]
  simp [List.getD_eq_getElem?_getD, List.getElem?_eq_getElem (show k + 1 - n + i < xs.length by omega)]

set_option maxRecDepth 100000 in
set_option maxHeartbeats 8000000 in
theorem last_long (m : Int) (A B : Option Addr) (ca cb : Nat) (l more : List ByteArray) (w : World) (h1 : l.length ≤ 9223372036854775807) (h2 : more.length ≤ 9223372036854775807) (s : Int) (hs : IntKind.i64.wrap ((l.length : Int) + (more.length : Int)) = s) (h : 4194304 < s) :
    Calls Try.prog 4 #[.int .i64 m, .slice A l.length ca, .slice B more.length cb] w fun e w' => e = .returned (.bool true) ∧ Below w.heap.size w w' := by
  go_enter Try.func4, Try.ntmps4
  go_wp2_with fail
  refine (works_calls w).mono ?_
  rintro e w1 ⟨rfl, hB⟩
  have HB := Lib.hid hB
  clear hB
  go_wp2
  go_ret
  exact ⟨rfl, HB.out⟩
set_option maxRecDepth 100000 in
set_option maxHeartbeats 8000000 in
theorem last_no (m : Int) (A B : Option Addr) (ca cb : Nat) (l more : List ByteArray) (w : World) (h1 : l.length ≤ 9223372036854775807) (h2 : more.length ≤ 9223372036854775807) (s : Int) (hs : IntKind.i64.wrap ((l.length : Int) + (more.length : Int)) = s) (h : s ≤ 4194304) (hm : ¬ (0 ≤ m ∧ m ≤ 64)) :
    Calls Try.prog 4 #[.int .i64 m, .slice A l.length ca, .slice B more.length cb] w fun e w' => e = .returned (.bool true) ∧ Below w.heap.size w w' := by
  have K := Lib.hid (fun W => newno_str m W hm)
  go_enter Try.func4, Try.ntmps4
  go_wp2_with fail
  refine (works_calls w).mono ?_
  rintro e w1 ⟨rfl, hB⟩
  have HB := Lib.hid hB
  clear hB
  go_wp2_with fail
  refine (K.out w1).mono ?_
  rintro e w2 ⟨rfl, rfl⟩
  by_cases h0 : m < 0
  · go_wp2
    go_ret
    exact ⟨by simp, HB.out⟩
  · have h9 : 64 < m := by omega
    go_wp2
    go_ret
    exact ⟨by simp, HB.out⟩
set_option maxRecDepth 100000 in
set_option maxHeartbeats 16000000 in
theorem last_yes (m : Nat) (A B : Option Addr) (ca cb : Nat) (l more : List ByteArray) (w : World) (hA : RdT w A l) (hM : RdT w B more) (s : Int) (hs : IntKind.i64.wrap ((l.length : Int) + (more.length : Int)) = s) (h : s ≤ 4194304) (hm : m ≤ 64) :
    Calls Try.prog 4 #[.int .i64 m, .slice A l.length ca, .slice B more.length cb] w fun e w' => e = .returned (.bool true) ∧ Below w.heap.size w w' := by
  have h1 := hA.1
  have h2 := hM.1
  have HA := Lib.hid hA
  have HM := Lib.hid hM
  clear hA hM
  go_enter Try.func4, Try.ntmps4
  go_wp2_with fail
  refine (works_calls w).mono ?_
  rintro e w1 ⟨rfl, hB⟩
  have B1 := Lib.hid hB
  clear hB
  go_wp2_with fail
  refine (new_str m w1 (by omega)).mono ?_
  rintro e w2 ⟨rfl, hr, hB⟩
  have lb : w.heap.size ≤ w1.heap.size := B1.out.size
  have B2 := Lib.hid (below_then B1.out B1.out.size hB)
  obtain ⟨b, hb⟩ : ∃ b, w1.heap.size = b := ⟨_, rfl⟩
  rw [hb] at hr lb ⊢
  have R2 := Lib.hid hr
  clear hr hB hb B1
  go_wp2_with fail
  go_loopw [10] (fun v wr => ∃ k : Nat, k ≤ l.length ∧ v = .int .i64 k ∧ Hid (∃ xs, RingI 87 wr b m xs) ∧ Hid (Below w.heap.size w wr)) (fun v _ => l.length - (intOf v).toNat)
  case atStart => exact ⟨0, by omega, rfl, Lib.hid ⟨_, R2.out⟩, B2⟩
  case round =>
    clear R2 B2
    obtain ⟨k, hk, rfl, HR, HB⟩ := hrel
    by_cases hlt : k < l.length
    · obtain ⟨a, rfl, hc⟩ := HA.out.2 (by omega)
      have x0 := pw_cell_below HB.out (hc k hlt)
      obtain ⟨y, hy⟩ : ∃ y, l.getD k ⟨#[]⟩ = y := ⟨_, rfl⟩
      rw [hy] at x0
      obtain ⟨xs, hx⟩ := HR.out
      have K := Lib.hid (put_str b m xs y wr hx)
      clear hc hy hx HR
      go_wp2_with fail
      refine K.out.mono ?_
      rintro e w3 ⟨rfl, hr, ho⟩
      have HR := Lib.hid hr
      have HB3 := Lib.hid (ho.from HB.out (fun j hj => by rw [hj]; exact lb))
      clear hr ho
      go_wp2
      exact ⟨⟨k + 1, by omega, by go_num, Lib.hid ⟨_, HR.out⟩, HB3⟩, by simp [intOf]; omega⟩
    · obtain rfl : k = l.length := by omega
      obtain ⟨xs, hx⟩ := HR.out
      have K := Lib.hid (clear_str b m xs wr hx)
      clear hx HR
      go_wp2_with fail
      refine K.out.mono ?_
      rintro e w3 ⟨rfl, hr, ho⟩
      have R3 := Lib.hid hr
      have B3 := Lib.hid (ho.from HB.out (fun j hj => by rw [hj]; exact lb))
      clear hr ho HB K
      go_wp2_with fail
      refine (len_str b m [] w3 R3.out).mono ?_
      rintro e w4 ⟨rfl, rfl⟩
      go_wp2_with fail
      go_loopw [12] (fun v wr => ∃ k : Nat, k ≤ more.length ∧ v = .int .i64 k ∧ Hid (RingI 87 wr b m (lastN m (strs (more.take k)))) ∧ Hid (Below w.heap.size w wr)) (fun v _ => more.length - (intOf v).toNat)
      case atStart => exact ⟨0, by omega, rfl, Lib.hid (by simpa [strs, lastN] using R3.out), B3⟩
      case round =>
        clear R3 B3
        obtain ⟨k, hk, rfl, HR, HB⟩ := hrel
        by_cases hlt : k < more.length
        · obtain ⟨a, rfl, hc⟩ := HM.out.2 (by omega)
          have x0 := pw_cell_below HB.out (hc k hlt)
          have HT := Lib.hid (take_one more k ⟨#[]⟩ hlt)
          obtain ⟨y, hy⟩ : ∃ y, more.getD k ⟨#[]⟩ = y := ⟨_, rfl⟩
          rw [hy] at x0 HT
          have K := Lib.hid (put_str b m _ y wr HR.out)
          have HC := Lib.hid hc
          clear hc hy HR
          go_wp2_with fail
          refine K.out.mono ?_
          rintro e w3 ⟨rfl, hr, ho⟩
          rw [push_last, show strs (more.take k) ++ [.string y] = strs (more.take (k + 1)) by rw [HT.out]; simp [strs]] at hr
          have HR := Lib.hid hr
          have HB3 := Lib.hid (ho.from HB.out (fun j hj => by rw [hj]; exact lb))
          have HC3 : Hid (∀ i, i < more.length → w3.cell? (a.add i) = some (.string (more.getD i ⟨#[]⟩))) := Lib.hid (fun i hi => pw_cell_below HB3.out (HC.out i hi))
          have HL := Lib.hid (len_str b m _ w3 HR.out)
          have hll : (lastN m (strs (more.take (k + 1)))).length = min m (k + 1) := by rw [lastN_length]; simp [strs]; omega
          have HLL := Lib.hid hll
          rw [hll] at HL
          have HC0 := HC
          clear hr ho K x0 HT hll HB HC
          have hc0 := HC0.out
          by_cases hmk : m < k + 1
          · have HN : Hid (m = min m (k + 1)) := Lib.hid (by omega)
            have HL2 : Hid (Calls Try.prog 17 #[.pointer (some ⟨b, 0, none⟩)] w3 fun e w' => e = .returned (.int .i64 (m : Int)) ∧ w3 = w') := calls_eq HL.out (by congr 1; have := HN.out; omega)
            have ne : (((m : Int) : Int) != ((m : Int) : Int)) = false := by simp
            clear HL
            go_wp2_with fail
            refine HL2.out.mono ?_
            rintro e w4 ⟨rfl, rfl⟩
            go_wp2_with fail
            clear HL2
            go_loopw [14] (fun v wr => ∃ j : Nat, j ≤ m ∧ v = .int .i64 j ∧ Hid (RingI 87 wr b m (lastN m (strs (more.take (k + 1))))) ∧ Hid (Below w.heap.size w wr)) (fun v _ => m - (intOf v).toNat)
            case atStart => exact ⟨0, by omega, rfl, HR, HB3⟩
            case round =>
              clear HR HB3 HC3
              obtain ⟨j, hj, rfl, HR, HB⟩ := hrel
              by_cases hj2 : j < m
              · have hy := last_at m k j more hlt (m) HN.out hj2
                have KA := Lib.hid (at_str b m _ _ HR.out j (by rw [HLL.out]; have := HN.out; omega) _ hy)
                have x0 := fun W (hW : Below w.heap.size w W) => pw_cell_below hW (hc0 (k + 1 - (m) + j) (by have := HN.out; omega))
                have HX := Lib.hid x0
                obtain ⟨y, hy2⟩ : ∃ y, more.getD (k + 1 - (m) + j) ⟨#[]⟩ = y := ⟨_, rfl⟩
                rw [hy2] at KA HX
                obtain ⟨z, hz⟩ : ∃ z : Nat, k + 1 - (m) + j = z := ⟨_, rfl⟩
                rw [hz] at HX
                have ez : (k : Int) + 1 - (m : Int) + j = z := by have := HN.out; omega
                have zl : z < more.length := by have := HN.out; omega
                clear x0 hy hy2
                clear hz
                go_wp2_with fail
                refine KA.out.mono ?_
                rintro e w5 ⟨rfl, rfl⟩
                have HR5 : Hid (RingI 87 _ b m _) := Lib.hid (HR.out.keep (w' := World.drew _) rfl)
                have HB5 := Lib.hid HB.out.drew
                have x1 := HX.out _ HB5.out
                clear HR HB KA HX
                go_wp2
                exact ⟨⟨j + 1, by omega, by go_num, HR5, HB5⟩, by simp [intOf]; omega⟩
              · obtain rfl : j = m := by omega
                go_wp2
                exact ⟨⟨k + 1, by omega, by go_num, HR, HB⟩, by simp [intOf]; omega⟩
          · have hmk2 : (k : Int) + 1 ≤ (m : Int) := by omega
            have HN : Hid (k + 1 = min m (k + 1)) := Lib.hid (by omega)
            have HL2 : Hid (Calls Try.prog 17 #[.pointer (some ⟨b, 0, none⟩)] w3 fun e w' => e = .returned (.int .i64 ((k : Int) + 1)) ∧ w3 = w') := calls_eq HL.out (by congr 1; have := HN.out; omega)
            have ne : ((((k : Int) + 1) : Int) != (((k : Int) + 1) : Int)) = false := by simp
            clear HL
            go_wp2_with fail
            refine HL2.out.mono ?_
            rintro e w4 ⟨rfl, rfl⟩
            go_wp2_with fail
            clear HL2
            go_loopw [14] (fun v wr => ∃ j : Nat, j ≤ k + 1 ∧ v = .int .i64 j ∧ Hid (RingI 87 wr b m (lastN m (strs (more.take (k + 1))))) ∧ Hid (Below w.heap.size w wr)) (fun v _ => k + 1 - (intOf v).toNat)
            case atStart => exact ⟨0, by omega, rfl, HR, HB3⟩
            case round =>
              clear HR HB3 HC3
              obtain ⟨j, hj, rfl, HR, HB⟩ := hrel
              by_cases hj2 : j < k + 1
              · have hy := last_at m k j more hlt (k + 1) HN.out hj2
                have KA := Lib.hid (at_str b m _ _ HR.out j (by rw [HLL.out]; have := HN.out; omega) _ hy)
                have x0 := fun W (hW : Below w.heap.size w W) => pw_cell_below hW (hc0 (k + 1 - (k + 1) + j) (by have := HN.out; omega))
                have HX := Lib.hid x0
                obtain ⟨y, hy2⟩ : ∃ y, more.getD (k + 1 - (k + 1) + j) ⟨#[]⟩ = y := ⟨_, rfl⟩
                rw [hy2] at KA HX
                obtain ⟨z, hz⟩ : ∃ z : Nat, k + 1 - (k + 1) + j = z := ⟨_, rfl⟩
                rw [hz] at HX
                obtain rfl : j = z := by omega
                have zl : j < more.length := by have := HN.out; omega
                clear x0 hy hy2
                clear hz
                go_wp2_with fail
                refine KA.out.mono ?_
                rintro e w5 ⟨rfl, rfl⟩
                have HR5 : Hid (RingI 87 _ b m _) := Lib.hid (HR.out.keep (w' := World.drew _) rfl)
                have HB5 := Lib.hid HB.out.drew
                have x1 := HX.out _ HB5.out
                clear HR HB KA HX
                go_wp2
                exact ⟨⟨j + 1, by omega, by go_num, HR5, HB5⟩, by simp [intOf]; omega⟩
              · obtain rfl : j = k + 1 := by omega
                go_wp2
                exact ⟨⟨k + 1, by omega, by go_num, HR, HB⟩, by simp [intOf]; omega⟩
        · obtain rfl : k = more.length := by omega
          go_wp2
          go_ret
          exact ⟨rfl, HB.out⟩
end Go.Proofs.Yteajaakhdnlpeaa.Q
