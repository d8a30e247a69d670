import Derived.Test.YtbcijdgpaglbnaaH
namespace Go.Proofs.Ytbcijdgpaglbnaa.Q
open Go.RowKit Go.Shelf Go.Proofs.YtbcijdgpaglbnaaW.PrintWords Go.Deep
set_option linter.unusedVariables false
set_option linter.unusedSimpArgs false

theorem bytes_app {a b : List Nat} (ha : Bytes a) (hb : Bytes b) : Bytes (a ++ b) := fun i => by
  by_cases h : i < a.length
  · have := ha i
    simpa [List.getD_eq_getElem?_getD, List.getElem?_append_left h] using this
  · have := hb (i - a.length)
    simpa [List.getD_eq_getElem?_getD, List.getElem?_append_right (Nat.le_of_not_lt h)] using this
theorem bytes_four (n : Nat) : Bytes (four4 n) := fun i => by
  match i with
  | 0 => exact byteOf_lt n 0
  | 1 => exact byteOf_lt n 1
  | 2 => exact byteOf_lt n 2
  | 3 => exact byteOf_lt n 3
  | k + 4 => simp [four4]
theorem bytes_one : Bytes [66] := fun i => by
  match i with
  | 0 => decide
  | n + 1 => simp
theorem bytes_frame {L : List Nat} (h : Bytes L) : Bytes (frameB L) := bytes_app (bytes_four _) (bytes_app (bytes_four _) (bytes_app h bytes_one))
theorem bytes_nil : Bytes [] := fun i => by simp
theorem rd_lt {w : World} {g : Nat} {L : List Nat} (h : RdB w (some ⟨g, 0, none⟩) L) (hl : 0 < L.length) : g < w.heap.size := by
  obtain ⟨b, o, e, hc⟩ := h.2 hl
  have e2 := Option.some.inj e
  injection e2 with e3 e4
  subst e3
  exact World.block_lt_of_cell? w _ (hc 0 hl)
theorem nil_rdb (w : World) : RdB w none [] := ⟨by simp, fun h => by simp at h⟩
theorem row_rdb {w : World} {g n x : Nat} (h : w.rowIs g 5 n (fun i => .int .u8 ((if i < n then x else 0 : Nat) : Int))) (hn : n ≤ 9223372036854775807) : RdB w (some ⟨g, 0, none⟩) (List.replicate n x) :=
  ⟨by simpa using hn, fun _ => ⟨g, 0, rfl, fun i hi => by
    simp only [List.length_replicate] at hi
    rw [Nat.zero_add, h.cell hi]
    simp [hi, List.getD_eq_getElem?_getD]⟩⟩

set_option maxRecDepth 100000 in
set_option maxHeartbeats 4000000 in
theorem lengths_out (n : Int) (x : Nat) (w : World) (h : ¬ (0 ≤ n ∧ n ≤ 1048579)) :
    Calls Try.prog 5 #[.int .i64 n, .int .u8 x] w fun e w' => e = .returned (.bool true) ∧ Below w.heap.size w w' := by
  by_cases h0 : n < 0
  · go_enter Try.func5, Try.ntmps5
    go_wp2
    go_ret
    exact ⟨rfl, Below.refl _ _⟩
  · have h1 : 1048579 < n := by omega
    go_enter Try.func5, Try.ntmps5
    go_wp2
    go_ret
    exact ⟨rfl, Below.refl _ _⟩
set_option maxRecDepth 100000 in
set_option maxHeartbeats 8000000 in
theorem lengths_in (n x : Nat) (w : World) (h : n ≤ 1048579) (hx : x < 256) :
    Calls Try.prog 5 #[.int .i64 n, .int .u8 x] w fun e w' => e = .returned (.bool true) ∧ Below w.heap.size w w' := by
  obtain ⟨i0, hi, hz0, hz1, hz2⟩ := info_parts infoB
  have HI := Lib.hid (And.intro hi (And.intro hz0 (And.intro hz1 hz2)))
  clear hi hz0 hz1 hz2
  go_enter Try.func5, Try.ntmps5
  go_wp2_with (refine wpList_make_row _ rfl _ _ 25 rfl 5 i0 (.int .u8 0) Try.underlying25 HI.out.1 HI.out.2.1 HI.out.2.2.1 rfl .i64 .i64 n rfl rfl (by rw [HI.out.2.2.2]; omega) (by omega) ?_)
  go_loopw [6] (fun t wr => ∃ k : Nat, k ≤ n ∧ t = .int .i64 k ∧ Hid (wr.rowIs w.heap.size 5 n (fun i => .int .u8 ((if i < k then x else 0 : Nat) : Int))) ∧ Hid (Below w.heap.size w wr)) (fun t _ => n - (intOf t).toNat)
  case atStart => exact ⟨0, by omega, rfl, Lib.hid ((World.rowIs_made w (.int .u8 0) _ 5).congr (fun i hi => by simp)), Lib.hid (below_alloc (Below.refl _ _) _)⟩
  case round =>
    obtain ⟨k, hk, rfl, HR, HB⟩ := hrel
    by_cases hlt : k < n
    · have r0 := HR.out.cell hlt
      have f0 := HR.out.frozen k
      have HN : Hid ((wr.setCell ⟨w.heap.size, k, none⟩ (.int .u8 x)).rowIs w.heap.size 5 n (fun i => .int .u8 ((if i < k + 1 then x else 0 : Nat) : Int))) := Lib.hid ((HR.out.set k (.int .u8 x)).congr (fun i hi => by
        by_cases e : i = k
        · subst e; simp
        · have : (i < k + 1) = (i < k) := by simp; omega
          simp [e, this]))
      have HBN : Hid (Below w.heap.size w (wr.setCell ⟨w.heap.size, k, none⟩ (.int .u8 x))) := Lib.hid (HB.out.setCell (Nat.le_refl _) _)
      go_wp2
      exact ⟨⟨k + 1, by omega, by go_num, HN, HBN⟩, by simp [intOf]; omega⟩
    · obtain rfl : k = n := by omega
      have hL := row_rdb HR.out (by omega)
      have hLb : Bytes (List.replicate k x) := fun i => by
        by_cases hi : i < k
        · simpa [List.getD_eq_getElem?_getD, hi] using hx
        · simp [List.getD_eq_getElem?_getD, hi]
      have hlen : (List.replicate k x).length = k := by simp
      obtain ⟨L, hLL⟩ : ∃ L, List.replicate k x = L := ⟨_, rfl⟩
      rw [hLL] at hL hLb hlen
      have RL := Lib.hid hL
      have BL := Lib.hid hLb
      have HLn := Lib.hid hlen
      clear hL hLb hlen hLL HR
      by_cases hok : 1 ≤ k ∧ k ≤ 1048576
      · obtain ⟨k1, k2⟩ := hok
        have KP := Lib.hid (put_yes (some ⟨w.heap.size, 0, none⟩) k L wr RL.out BL.out (by rw [HLn.out]; exact k1) (by rw [HLn.out]; exact k2))
        rw [HLn.out] at KP
        have hfl : (frameB L).length = k + 9 := by rw [frame_length, HLn.out]
        have HFL := Lib.hid hfl
        have HFB := Lib.hid (bytes_frame BL.out)
        have O1 := Lib.hid (one_frame L (by rw [HLn.out]; exact k1) (by rw [HLn.out]; exact k2))
        have O2 := Lib.hid (whole_frame L (by rw [HLn.out]; exact k1) (by rw [HLn.out]; exact k2))
        clear hfl
        go_wp2_with fail
        refine KP.out.mono ?_
        rintro e w1 ⟨hB, g, c, rfl, hg, hc, hR⟩
        have RL1 := Lib.hid (RL.out.below hB)
        have RF1 := Lib.hid hR
        have HB1 := Lib.hid (below_then HB.out HB.out.size hB)
        rw [HLn.out] at hc ⊢
        clear hB hR RL HB KP hg
        have KO := one_calls (some ⟨g, 0, none⟩) c (frameB L) w1 RF1.out HFB.out (by rw [HFL.out]; exact hc) (by rw [HFL.out]; omega)
        rw [O1.out, HFL.out] at KO
        have KO1 := Lib.hid KO
        clear KO
        go_wp2_with fail
        refine KO1.out.mono ?_
        rintro e w2 ⟨hB, g3, c3, rfl, hR3⟩
        have RL2 := Lib.hid (RL1.out.below hB)
        have RF2 := Lib.hid (RF1.out.below hB)
        have R2 := Lib.hid hR3
        have HB2 := Lib.hid (below_then HB1.out HB1.out.size hB)
        rw [HLn.out]
        clear hB hR3 KO1 RL1 RF1 HB1
        have KW := whole_calls (some ⟨g, 0, none⟩) c (frameB L) w2 RF2.out (fun a ha => by
          have := Option.some.inj ha
          subst this
          exact ⟨rd_lt RF2.out (by rw [HFL.out]; omega), rfl⟩) (fun h => by cases h) HFB.out (by rw [HFL.out]; exact hc) (by rw [HFL.out]; omega)
        rw [O2.out, HFL.out, HLn.out] at KW
        have KW1 := Lib.hid KW
        clear KW
        go_wp2_with fail
        refine KW1.out.mono ?_
        rintro e w3 ⟨rfl, hB⟩
        have RL3 := Lib.hid (RL2.out.below hB)
        have R3 := Lib.hid (R2.out.below hB)
        have HB3 := Lib.hid (below_then HB2.out HB2.out.size hB)
        clear hB KW1 RL2 RF2 R2 HB2
        have KE := Lib.hid (eq_calls (some ⟨g3, 0, none⟩) (some ⟨w.heap.size, 0, none⟩) c3 k L w3 R3.out RL3.out)
        rw [HLn.out] at KE
        go_wp2_with fail
        refine KE.out.mono ?_
        rintro e w4 ⟨rfl, hB⟩
        have HB4 := Lib.hid (below_then HB3.out HB3.out.size hB)
        clear hB KE RL3 R3 HB3
        go_wp2_with fail
        refine (lives_calls w4).mono ?_
        rintro e w5 ⟨rfl, hB⟩
        have HB5 := Lib.hid (below_then HB4.out HB4.out.size hB)
        clear hB HB4
        go_wp2
        go_ret
        exact ⟨by simp, HB5.out⟩
      · have KP := Lib.hid (put_no (some ⟨w.heap.size, 0, none⟩) k L wr (by rw [HLn.out]; exact hok) (by rw [HLn.out]; omega))
        rw [HLn.out] at KP
        have KO := Lib.hid (fun W => one_calls none 0 [] W (nil_rdb W) bytes_nil (by simp) (by simp))
        have KW := Lib.hid (fun W => whole_calls none 0 [] W (nil_rdb W) (fun a h => by cases h) (fun _ => rfl) bytes_nil (by simp) (by simp))
        by_cases hk0 : k < 1
        · go_wp2_with fail
          refine KP.out.mono ?_
          rintro e w1 ⟨rfl, rfl⟩
          go_wp2_with fail
          refine (KO.out _).mono ?_
          rintro e w2 ⟨hB, hP⟩
          have hP2 : e = .returned (.tuple #[.slice none 0 0, .int .i64 30]) := hP
          subst hP2
          have HB2 := Lib.hid (below_then HB.out HB.out.size hB)
          clear hB hP HB
          go_wp2_with fail
          refine (KW.out _).mono ?_
          rintro e w3 ⟨rfl, hB⟩
          have HB3 := Lib.hid (below_then HB2.out HB2.out.size hB)
          clear hB HB2
          have e2 : posTo [] (cnt []) = 0 := rfl
          rw [e2]
          go_wp2
          go_ret
          exact ⟨by simp, HB3.out⟩
        · have hk1 : 1048576 < k := by omega
          go_wp2_with fail
          refine KP.out.mono ?_
          rintro e w1 ⟨rfl, rfl⟩
          go_wp2_with fail
          refine (KO.out _).mono ?_
          rintro e w2 ⟨hB, hP⟩
          have hP2 : e = .returned (.tuple #[.slice none 0 0, .int .i64 30]) := hP
          subst hP2
          have HB2 := Lib.hid (below_then HB.out HB.out.size hB)
          clear hB hP HB
          go_wp2_with fail
          refine (KW.out _).mono ?_
          rintro e w3 ⟨rfl, hB⟩
          have HB3 := Lib.hid (below_then HB2.out HB2.out.size hB)
          clear hB HB2
          have e2 : posTo [] (cnt []) = 0 := rfl
          rw [e2]
          go_wp2
          go_ret
          exact ⟨by simp, HB3.out⟩
end Go.Proofs.Ytbcijdgpaglbnaa.Q
