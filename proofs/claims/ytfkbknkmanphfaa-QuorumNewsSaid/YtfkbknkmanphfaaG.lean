import Derived.Test.YtfkbknkmanphfaaF
namespace Go.Proofs.Ytfkbknkmanphfaa.Q
open Go.RowKit Go.Proofs.YtfkbknkmanphfaaW.PrintWords Go.Sort
set_option linter.unusedVariables false
set_option linter.unusedSimpArgs false

/-- New where the lists are right -/
theorem new_yes (aw ag : Addr) (cw cg : Nat) (ws gs : List Int) (n : Nat) (w : World) (v : Valid ws gs) (hn : n = ws.length) (hw : ∀ i, i < ws.length → w.cell? (aw.add i) = some (.int .i64 (ws.getD i 0))) (hg : ∀ i, i < ws.length → w.cell? (ag.add i) = some (.int .i64 (gs.getD i 0))) :
    Calls Try.prog 9 #[.slice (some aw) n cw, .slice (some ag) n cg] w fun e w' => ∃ b, e = .returned (.tuple #[.pointer (some ⟨b, 0, none⟩), .int .i64 0]) ∧ w.heap.size ≤ b ∧ Sys w' b ws gs ∧ Below w.heap.size w w' := by
  subst hn
  refine (new_ok aw ag cw cg ws gs w hw hg v.pos v.le7 v.len).mono ?_
  rintro e w' ⟨hB, ⟨_, b, he, hb, hs⟩ | ⟨hn, _⟩⟩
  · exact ⟨b, he, hb, hs, hB⟩
  · exact absurd v hn

theorem Acks.after {w w' : World} {a b : Nat} {ws gs : List Int} {f f' : Nat → Ak} (h : Acks w a b ws gs f) (ho : Only (fun k => k = a) w w') (hb : w'.heap[a]? = some (.cells (ackArr b f') 71 (0, 0))) : Acks w' a b ws gs f' := by
  have ha := (Array.getElem?_eq_some_iff.1 h.blk).1
  exact ⟨h.sys.keep (fun k hk => ho.block k (by omega) (by omega)), hb⟩
theorem Acks.below {w w' : World} {a b : Nat} {ws gs : List Int} {f : Nat → Ak} (h : Acks w a b ws gs f) (hB : Below w.heap.size w w') : Acks w' a b ws gs f := by
  have ha := (Array.getElem?_eq_some_iff.1 h.blk).1
  exact ⟨h.sys.keep (fun k hk => hB.block k (by omega)), (hB.block a ha).trans h.blk⟩

theorem valid111 : Valid [1, 1, 1] [0, 0, 0] := ⟨rfl, by decide, by decide, by decide, by decide, by decide +kernel⟩
def f12 : Nat → Ak := putA (putA (fun _ => ⟨false, 0, 0⟩) 0 1 5) 2 1 3

set_option maxHeartbeats 2000000 in
theorem lives_calls (w : World) : Calls Try.prog 10 #[] w fun e w' => e = .returned (.bool true) ∧ Below w.heap.size w w' := by
  have K1 := Lib.hid (new_yes ⟨w.heap.size, 0, none⟩ ⟨w.heap.size + 1, 0, none⟩ 3 3 [1, 1, 1] [0, 0, 0] 3 ((w.alloc (.cells #[.int .i64 1, .int .i64 1, .int .i64 1] 3)).alloc (.cells #[.int .i64 0, .int .i64 0, .int .i64 0] 3)) valid111 rfl
    (fun i hi => by
      have hi3 : i < 3 := hi
      rw [add_plain, cell_of_row _ _ _ _ _ _ (heap_alloc2_old w _ _)]
      have : i = 0 ∨ i = 1 ∨ i = 2 := by omega
      rcases this with rfl | rfl | rfl <;> rfl)
    (fun i hi => by
      have hi3 : i < 3 := hi
      rw [add_plain, cell_of_row _ _ _ _ _ _ (heap_alloc2_new w _ _)]
      have : i = 0 ∨ i = 1 ∨ i = 2 := by omega
      rcases this with rfl | rfl | rfl <;> rfl))
  have HB0 := Lib.hid (below_alloc (below_alloc (Below.refl w.heap.size w) (Obj.cells #[.int .i64 1, .int .i64 1, .int .i64 1] 3)) (Obj.cells #[.int .i64 0, .int .i64 0, .int .i64 0] 3))
  go_enter Try.func10, Try.ntmps10
  go_wp2_with fail
  refine K1.out.mono ?_
  rintro e w1 ⟨b, rfl, hb, hs, hB⟩
  have HB1 : Hid (Below w.heap.size w w1) := Lib.hid (below_then HB0.out HB0.out.size hB)
  have HS1 := Lib.hid hs
  clear hB hs K1 hb
  go_wp2_with fail
  refine (newAcks_sys b _ _ w1 HS1.out).mono ?_
  rintro e w2 ⟨a, rfl, ha, hA, hB⟩
  have HB2 : Hid (Below w.heap.size w w2) := Lib.hid (below_then HB1.out HB1.out.size hB)
  have HA2 := Lib.hid hA
  have haw : w.heap.size ≤ a := by have := HB1.out.size; omega
  have HAW := Lib.hid haw
  clear hA hB ha haw
  go_wp2_with fail
  refine (put_yes a b _ _ _ w2 HA2.out 0 1 5 (by decide)).mono ?_
  rintro e w3 ⟨rfl, hO, hk⟩
  have HA3 := Lib.hid (HA2.out.after hO hk)
  have HB3 : Hid (Only (fun k => k = a) w w3) := Lib.hid ((Only.of_below HB2.out).trans hO (fun i hi e => e))
  clear hO hk
  go_wp2_with fail
  refine (put_yes a b _ _ _ w3 HA3.out 2 1 3 (by decide)).mono ?_
  rintro e w4 ⟨rfl, hO, hk⟩
  have HA4 := Lib.hid (HA3.out.after hO hk)
  have HB4 : Hid (Below w.heap.size w w4) := Lib.hid ((HB3.out.trans hO (fun i hi e => e)).below (fun k hk e => by have := HAW.out; omega))
  clear hO hk
  go_wp2_with fail
  refine (committed_acks a b _ _ _ w4 HA4.out).mono ?_
  rintro e w5 ⟨rfl, hB⟩
  have e1 : (bestTo [1, 1, 1] [0, 0, 0] (putA (putA (fun x => { s := false, e := 0, n := 0 }) 0 1 5) 2 1 3) 7).e = 1 := by decide +kernel
  have e2 : (bestTo [1, 1, 1] [0, 0, 0] (putA (putA (fun x => { s := false, e := 0, n := 0 }) 0 1 5) 2 1 3) 7).n = 3 := by decide +kernel
  have e3 : (bestTo [1, 1, 1] [0, 0, 0] (putA (putA (fun x => { s := false, e := 0, n := 0 }) 0 1 5) 2 1 3) 7).s = true := by decide +kernel
  rw [e1, e2, e3]
  have HB5 : Hid (Below w.heap.size w w5) := Lib.hid (below_then HB4.out HB4.out.size hB)
  have HA5 := Lib.hid (HA4.out.below hB)
  clear hB e1 e2 e3
  go_wp2_with fail
  have hBx := below_alloc (Below.refl w5.heap.size w5) (Obj.cells #[Value.int IntKind.u32 1, Value.int IntKind.u32 3] 44)
  have z0 : (w5.alloc (Obj.cells #[Value.int IntKind.u32 1, Value.int IntKind.u32 3] 44)).cell? ⟨w5.heap.size, 0, none⟩ = some (.int .u32 1) := World.cell?_alloc_new w5 _ _ _
  have z1 : (w5.alloc (Obj.cells #[Value.int IntKind.u32 1, Value.int IntKind.u32 3] 44)).cell? ⟨w5.heap.size, 1, none⟩ = some (.int .u32 3) := World.cell?_alloc_new w5 _ _ _
  have HS6 := HA5.out.sys.sys.below hBx
  have HB6 : Below w.heap.size w (w5.alloc (Obj.cells #[Value.int IntKind.u32 1, Value.int IntKind.u32 3] 44)) := below_then HB5.out HB5.out.size hBx
  generalize w5.alloc (Obj.cells #[Value.int IntKind.u32 1, Value.int IntKind.u32 3] 44) = w6 at *
  refine (calls_eq (has_sys b _ _ w6 HS6 3 (by decide)) (congrArg Value.bool (show hasB [1, 1, 1] [0, 0, 0] (inS 3) = true by decide +kernel))).out.mono ?_
  rintro e w7 ⟨rfl, hB⟩
  have z0' := pw_cell_below hB z0
  have z1' := pw_cell_below hB z1
  have HS7 := Lib.hid (HS6.below hB)
  have HB7 := Lib.hid (below_then HB6 HB6.size hB)
  clear hB z0 z1 HS6 HB6 hBx
  go_wp2_with fail
  refine (calls_eq (has_sys b _ _ w7 HS7.out 4 (by decide)) (congrArg Value.bool (show hasB [1, 1, 1] [0, 0, 0] (inS 4) = false by decide +kernel))).out.mono ?_
  rintro e w8 ⟨rfl, hB⟩
  have y0 := pw_cell_below hB z0'
  have y1 := pw_cell_below hB z1'
  have HB8 := Lib.hid (below_then HB7.out HB7.out.size hB)
  clear hB z0' z1'
  go_wp2
  go_ret
  exact ⟨rfl, HB8.out⟩

/-- (the law's) long -/
theorem long_calls (n : Int) (h : n < 2147483647) (w : World) : Calls Try.prog 8 #[.int .i64 n] w fun e w' => e = .returned (.bool false) ∧ w = w' := by
  go_enter Try.func8, Try.ntmps8
  go_wp2
  go_ret
  exact ⟨by simp; omega, rfl⟩
theorem long_calls' (n : Int) (h : 2147483647 ≤ n) (w : World) : Calls Try.prog 8 #[.int .i64 n] w fun e w' => e = .returned (.bool true) ∧ w = w' := by
  go_enter Try.func8, Try.ntmps8
  go_wp2
  go_ret
  exact ⟨by simp [h], rfl⟩

def commonTo (ws : List Int) (a b : Int) : Nat → Bool
  | 0 => false
  | i + 1 => commonTo ws a b i || (inS a i && inS b i && countsB ws i)
theorem commonTo_true (ws : List Int) (a b : Int) (i n : Nat) (hi : i < n) (h : (inS a i && inS b i && countsB ws i) = true) : commonTo ws a b n = true := by
  induction n with
  | zero => omega
  | succ n ih =>
    simp only [commonTo]
    by_cases e : i = n
    · subst e; rw [h]; simp
    · rw [ih (by omega)]; rfl

theorem common_sys (q : Nat) (ws gs : List Int) (w : World) (h : Sys w q ws gs) (a b : Int) (ha : 0 ≤ a ∧ a ≤ 255) (hb : 0 ≤ b ∧ b ≤ 255) :
    Calls Try.prog 31 #[.pointer (some ⟨q, 0, none⟩), .int .u8 a, .int .u8 b] w fun e w' => e = .returned (.bool (commonTo ws a b 7)) ∧ w = w' := by
  have H := Lib.hid h
  clear h
  obtain ⟨a0, a1⟩ := ha
  obtain ⟨b0, b1⟩ := hb
  go_enter Try.func31, Try.ntmps31
  go_wp2
  go_loop [7] (fun v => ∃ k : Nat, k ≤ 7 ∧ v = .int .i64 k ∧ Hid (commonTo ws a b k = false)) (fun v => 7 - (intOf v).toNat)
  case atStart => exact ⟨0, by omega, rfl, Lib.hid rfl⟩
  case round =>
    obtain ⟨k, hk, rfl, HC⟩ := hrel
    by_cases hlt : k < 7
    · have Ta := and_pow_u8 a k a0 a1 (by omega)
      have Tb := and_pow_u8 b k b0 b1 (by omega)
      have K := counts_sys q ws gs w H.out k (by omega)
      cases ia : inS a k with
      | false =>
        rw [ia] at Ta
        have Ta2 : (bits .and .u8 a (2 ^ k % 256) != 0) = false := by rw [Ta.2 rfl]; rfl
        have HF : Hid (commonTo ws a b (k + 1) = false) := Lib.hid (by simp only [commonTo]; rw [HC.out, ia]; rfl)
        clear Ta Tb K ia
        go_wp2
        exact ⟨⟨k + 1, by omega, by go_num, HF⟩, by simp [intOf]; omega⟩
      | true =>
        rw [ia] at Ta
        have Ta2 : (bits .and .u8 a (2 ^ k % 256) != 0) = true := by rw [bne_iff_ne]; exact fun h => by have := Ta.1 h; simp at this
        cases ib : inS b k with
        | false =>
          rw [ib] at Tb
          have Tb2 : (bits .and .u8 b (2 ^ k % 256) != 0) = false := by rw [Tb.2 rfl]; rfl
          have HF : Hid (commonTo ws a b (k + 1) = false) := Lib.hid (by simp only [commonTo]; rw [HC.out, ia, ib]; rfl)
          clear Ta Tb K ia ib
          go_wp2
          exact ⟨⟨k + 1, by omega, by go_num, HF⟩, by simp [intOf]; omega⟩
        | true =>
          rw [ib] at Tb
          have Tb2 : (bits .and .u8 b (2 ^ k % 256) != 0) = true := by rw [bne_iff_ne]; exact fun h => by have := Tb.1 h; simp at this
          cases hc : countsB ws k with
          | true =>
            have K2 := calls_eq K (congrArg Value.bool hc)
            have HF : Hid (commonTo ws a b 7 = true) := Lib.hid (commonTo_true ws a b k 7 hlt (by rw [ia, ib, hc]; rfl))
            clear Ta Tb K ia ib hc
            go_wp2_with (go_at_call 26; refine K2.out.mono ?_; rintro e w' ⟨rfl, rfl⟩)
            go_ret
            exact ⟨by rw [HF.out]; rfl, rfl⟩
          | false =>
            have K2 := calls_eq K (congrArg Value.bool hc)
            have HF : Hid (commonTo ws a b (k + 1) = false) := Lib.hid (by simp only [commonTo]; rw [HC.out, ia, ib, hc]; rfl)
            clear Ta Tb K ia ib hc
            go_wp2_with (go_at_call 26; refine K2.out.mono ?_; rintro e w' ⟨rfl, rfl⟩)
            exact ⟨⟨k + 1, by omega, by go_num, HF⟩, by simp [intOf]; omega⟩
    · obtain rfl : k = 7 := by omega
      go_wp2
      go_ret
      exact ⟨by rw [HC.out]; rfl, rfl⟩
end Go.Proofs.Ytfkbknkmanphfaa.Q
