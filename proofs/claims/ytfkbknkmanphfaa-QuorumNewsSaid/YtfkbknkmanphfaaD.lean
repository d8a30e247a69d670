import Derived.Test.YtfkbknkmanphfaaC
import Derived.Deep.MidRow
import Derived.RegionTactic
import Derived.ChangeAlike
namespace Go.Proofs.Ytfkbknkmanphfaa.Q
open Go.RowKit Go.Proofs.YtfkbknkmanphfaaW.PrintWords
set_option linter.unusedVariables false
set_option linter.unusedSimpArgs false

theorem of_no (a b : Nat) (ws gs : List Int) (f : Nat → Ak) (w : World) (h : Acks w a b ws gs f) (n : Int) (hn : -128 ≤ n ∧ n ≤ 127) (hv : validB ws n = false) :
    Calls Try.prog 19 #[.pointer (some ⟨a, 0, none⟩), .int .i8 n] w fun e w' => e = .returned (.tuple #[.agg #[.int .u32 0, .int .u32 0], .bool false]) ∧ Below w.heap.size w w' := by
  have hb := h.sys.sys.below (below_alloc (Below.refl w.heap.size w) (Obj.cells #[Value.int IntKind.u32 0, Value.int IntKind.u32 0] 44))
  have hp := cell_of_row w a 0 _ _ _ h.blk
  have K := hasA_acks a b ws gs _ hb (pw_cell_below (below_alloc (Below.refl w.heap.size w) (Obj.cells #[Value.int IntKind.u32 0, Value.int IntKind.u32 0] 44)) hp) n hn
  have K2 := calls_eq K (congrArg Value.bool hv)
  clear K hv hp
  go_enter Try.func19, Try.ntmps19
  go_wp2_with (go_at_call 34; refine K2.out.mono ?_; rintro e w' ⟨rfl, rfl⟩)
  exact bodyPost_ret (v := .tuple #[.agg #[.int .u32 0, .int .u32 0], .bool false]) (by simp [results, Try.results19, go_sem]) rfl ⟨rfl, below_alloc (Below.refl _ _) _⟩

theorem of_yes (a b : Nat) (ws gs : List Int) (f : Nat → Ak) (w : World) (h : Acks w a b ws gs f) (m : Nat) (hm : m < ws.length) :
    Calls Try.prog 19 #[.pointer (some ⟨a, 0, none⟩), .int .i8 m] w fun e w' => e = .returned (.tuple #[.agg #[.int .u32 (f m).e, .int .u32 (f m).n], .bool (f m).s]) ∧ Below w.heap.size w w' := by
  obtain ⟨W, HW, HB, h7, ha, hblk, z0, z1, g0, g1, g2, K2⟩ := put_facts a b ws gs f w h m 0 0 hm
  have hsz : Hid (W.heap.size = w.heap.size + 1) := Lib.hid (by rw [← HW.out]; simp)
  have zf0 : W.frozen? ⟨w.heap.size, 0, none⟩ = false := by rw [← HW.out]; exact World.frozen?_alloc_new w _ _ _
  have zf1 : W.frozen? ⟨w.heap.size, 1, none⟩ = false := by rw [← HW.out]; exact World.frozen?_alloc_new w _ _ _
  clear h hm
  generalize (f m).e = fe at *
  generalize (f m).n = fn at *
  generalize (f m).s = fs at *
  go_enter Try.func19, Try.ntmps19
  go_wp2_with fail
  rw [HW.out]
  refine K2.out.mono ?_
  rintro e w' ⟨rfl, rfl⟩
  go_wp2
  go_region
  have r0 : (((W.setCell { block := w.heap.size, off := 0 } (Value.int IntKind.u32 fe)).setCell { block := w.heap.size, off := 1 } (Value.int IntKind.u32 fn)).drew).cell? ⟨w.heap.size, 0, none⟩ = some (.int .u32 fe) := by
    rw [World.cell?_drew, World.cell?_setCell_other _ _ _ _ (by simp), World.cell?_setCell_same _ _ _ z0]
  have r1 : (((W.setCell { block := w.heap.size, off := 0 } (Value.int IntKind.u32 fe)).setCell { block := w.heap.size, off := 1 } (Value.int IntKind.u32 fn)).drew).cell? ⟨w.heap.size, 1, none⟩ = some (.int .u32 fn) := by
    rw [World.cell?_drew, World.cell?_setCell_same _ _ _ ((World.cell?_setCell_other _ _ _ _ (by simp)).trans z1)]
  have HF := Lib.hid (((HB.out.setCell (p := ⟨w.heap.size, 0, none⟩) (Nat.le_refl _) (.int .u32 fe)).setCell (p := ⟨w.heap.size, 1, none⟩) (Nat.le_refl _) (.int .u32 fn)).drew)
  go_wp2
  exact bodyPost_ret (v := .tuple #[.agg #[.int .u32 fe, .int .u32 fn], .bool fs]) (by simp [results, Try.results19, go_sem, r0, r1]) rfl ⟨rfl, HF.out⟩

def ackRow (f : Nat → Ak) : List Value := [
  .bool (f 0).s, .int .u32 (f 0).e, .int .u32 (f 0).n, .bool (f 1).s, .int .u32 (f 1).e, .int .u32 (f 1).n, .bool (f 2).s, .int .u32 (f 2).e, .int .u32 (f 2).n, .bool (f 3).s, .int .u32 (f 3).e, .int .u32 (f 3).n,
  .bool (f 4).s, .int .u32 (f 4).e, .int .u32 (f 4).n, .bool (f 5).s, .int .u32 (f 5).e, .int .u32 (f 5).n, .bool (f 6).s, .int .u32 (f 6).e, .int .u32 (f 6).n]
theorem ackRow_at {w : World} {a b : Nat} {f : Nat → Ak} (h : w.heap[a]? = some (.cells (ackArr b f) 71 (0, 0))) : w.rangeAt a 1 (ackRow f) := by
  have e : ((ackArr b f).extract 1 (1 + 21)).toList = ackRow f := by simp [ackArr, ackRow]
  have := World.rangeAt_of_block h 1 21
  rwa [e] at this
theorem ackRow_index (f : Nat → Ak) (k : Nat) (hk : k < 7) (w : World) : (Instr.index 69 (.agg (ackRow f).toArray) (.int .i64 (k : Int))).run Try.prog w = .ok (.agg #[.bool (f k).s, .int .u32 (f k).e, .int .u32 (f k).n]) w := by
  rw [run_index_arrN 69 68 7 3 _ .i64 k Try.underlying69 _ Try.underlying68 rfl (by kernel_rfl) hk w]
  have : k = 0 ∨ k = 1 ∨ k = 2 ∨ k = 3 ∨ k = 4 ∨ k = 5 ∨ k = 6 := by omega
  rcases this with rfl | rfl | rfl | rfl | rfl | rfl | rfl <;> simp [ackRow]

def setTo (f : Nat → Ak) (ze zn : Int) : Nat → Int
  | 0 => 0
  | k + 1 => if (f k).s = true ∧ 0 ≤ cmpZ (f k).e (f k).n ze zn then bits .or .u8 (setTo f ze zn k) (2 ^ k % 256) else setTo f ze zn k
theorem or_bd (s : Int) (i : Nat) (h0 : 0 ≤ s) (h1 : s ≤ 255) (hi : i < 8) : 0 ≤ bits .or .u8 s (2 ^ i % 256) ∧ bits .or .u8 s (2 ^ i % 256) ≤ 255 := by
  obtain ⟨n, rfl⟩ := Int.eq_ofNat_of_zero_le h0
  have := bytes_all (fun n i => decide (0 ≤ bits .or .u8 (n : Int) (2 ^ i % 256) ∧ bits .or .u8 (n : Int) (2 ^ i % 256) ≤ 255)) (by decide +kernel) n i (by omega) hi
  simpa using this
theorem or_in (s : Int) (i j : Nat) (h0 : 0 ≤ s) (h1 : s ≤ 255) (hi : i < 8) (hj : j < 8) : inS (bits .or .u8 s (2 ^ i % 256)) j = (inS s j || decide (j = i)) := by
  obtain ⟨n, rfl⟩ := Int.eq_ofNat_of_zero_le h0
  have := bytes_all (fun n i => (List.range 8).all fun j => inS (bits .or .u8 (n : Int) (2 ^ i % 256)) j == (inS (n : Int) j || decide (j = i))) (by decide +kernel) n i (by omega) hi
  rw [List.all_eq_true] at this
  simpa using this j (by simp; omega)
theorem setTo_bd (f : Nat → Ak) (ze zn : Int) (k : Nat) (hk : k ≤ 7) : 0 ≤ setTo f ze zn k ∧ setTo f ze zn k ≤ 255 := by
  induction k with
  | zero => simp [setTo]
  | succ k ih =>
    have ih := ih (by omega)
    simp only [setTo]
    split
    · exact or_bd _ _ ih.1 ih.2 (by omega)
    · exact ih
theorem setTo_in (f : Nat → Ak) (ze zn : Int) (k : Nat) (hk : k ≤ 7) (j : Nat) (hj : j < 8) : inS (setTo f ze zn k) j = (decide (j < k) && (f j).s && decide (0 ≤ cmpZ (f j).e (f j).n ze zn)) := by
  induction k with
  | zero => simp [setTo, inS]
  | succ k ih =>
    have ih := ih (by omega)
    have bd := setTo_bd f ze zn k (by omega)
    simp only [setTo]
    split
    · rename_i h
      rw [or_in _ _ _ bd.1 bd.2 (by omega) hj, ih]
      by_cases e : j = k
      · subst e; simp [h.1, h.2]
      · have : (j < k + 1) = (j < k) := by simp; omega
        simp [e, this]
    · rename_i h
      rw [ih]
      by_cases e : j = k
      · subst e
        simp only [not_and] at h
        cases hs : (f j).s
        · simp
        · simpa using h hs
      · have : (j < k + 1) = (j < k) := by simp; omega
        simp [this]

set_option maxHeartbeats 1000000 in
theorem behind_acks (a b : Nat) (f : Nat → Ak) (w : World) (hblk : w.heap[a]? = some (.cells (ackArr b f) 71 (0, 0))) (ze zn : Int) :
    Calls Try.prog 37 #[.pointer (some ⟨a, 0, none⟩), .agg #[.int .u32 ze, .int .u32 zn]] w fun e w' => e = .returned (.int .u8 (setTo f ze zn 7)) ∧ Below w.heap.size w w' := by
  have ha := (Array.getElem?_eq_some_iff.1 hblk).1
  have hB := below_alloc (Below.refl w.heap.size w) (Obj.cells #[Value.int IntKind.u32 ze, Value.int IntKind.u32 zn] 44)
  have z0 : (w.alloc (Obj.cells #[Value.int IntKind.u32 ze, Value.int IntKind.u32 zn] 44)).cell? ⟨w.heap.size, 0, none⟩ = some (.int .u32 ze) := World.cell?_alloc_new w _ _ _
  have z1 : (w.alloc (Obj.cells #[Value.int IntKind.u32 ze, Value.int IntKind.u32 zn] 44)).cell? ⟨w.heap.size, 1, none⟩ = some (.int .u32 zn) := World.cell?_alloc_new w _ _ _
  have hsz : (w.alloc (Obj.cells #[Value.int IntKind.u32 ze, Value.int IntKind.u32 zn] 44)).heap.size = w.heap.size + 1 := by simp
  obtain ⟨W, hW⟩ : ∃ W, w.alloc (Obj.cells #[Value.int IntKind.u32 ze, Value.int IntKind.u32 zn] 44) = W := ⟨_, rfl⟩
  rw [hW] at z0 z1 hB hsz
  have HB := Lib.hid hB
  have HW := Lib.hid hW
  have HK := Lib.hid ((hB.block a ha).trans hblk)
  have HS := Lib.hid hsz
  clear hB hW hblk hsz
  have HK0 := HK.out
  rw [← HW.out] at HK0
  have HK1 := Lib.hid HK0
  clear HK0
  go_enter Try.func37, Try.ntmps37
  go_wp2_with (refine wpList_load_mid rfl 69 _ rfl a 1 rfl (ackRow f) _ (ackRow_at HK1.out) Try.underlying69 rfl (by kernel_rfl) ?_)
  rw [HW.out]
  go_loopw [5, 12] (fun s i wr => ∃ k : Nat, k ≤ 7 ∧ i = .int .i64 k ∧ s = .int .u8 (setTo f ze zn k) ∧ Hid (Below W.heap.size W wr)) (fun _ i _ => 7 - (intOf i).toNat)
  case atStart => exact ⟨0, by omega, rfl, rfl, Lib.hid (Below.refl _ _)⟩
  case round =>
    obtain ⟨k, hk, rfl, rfl, HR⟩ := hrel
    have y0 := pw_cell_below HR.out z0
    have y1 := pw_cell_below HR.out z1
    have hlw : w.heap.size < wr.heap.size := by have := HR.out.size; have := HS.out; omega
    have bd := setTo_bd f ze zn k hk
    by_cases hlt : k < 7
    · have hx := ackRow_index f k hlt
      have HT : Hid (setTo f ze zn (k + 1) = if (f k).s = true ∧ 0 ≤ cmpZ (f k).e (f k).n ze zn then bits .or .u8 (setTo f ze zn k) (2 ^ k % 256) else setTo f ze zn k) := rfl
      have K3 := Lib.hid (cmp_calls (f k).e (f k).n ze zn)
      obtain ⟨t, ht⟩ : ∃ x, setTo f ze zn k = x := ⟨_, rfl⟩
      obtain ⟨fs, hfs⟩ : ∃ x, (f k).s = x := ⟨_, rfl⟩
      obtain ⟨fe, hfe⟩ : ∃ x, (f k).e = x := ⟨_, rfl⟩
      obtain ⟨fn, hfn⟩ : ∃ x, (f k).n = x := ⟨_, rfl⟩
      rw [hfs, hfe, hfn, ht] at HT
      rw [hfe, hfn] at K3
      simp only [hfs, hfe, hfn] at hx
      rw [ht] at bd ⊢
      clear hfs hfe hfn ht z0 z1
      cases fs with
      | true =>
        by_cases hc : 0 ≤ cmpZ fe fn ze zn
        · go_wp2_with (go_at_call 35; refine (K3.out _).mono ?_; rintro e w2 ⟨rfl, hb2⟩)
          exact ⟨⟨k + 1, by omega, by go_num, by rw [HT.out, if_pos ⟨by simp, hc⟩], Lib.hid (below_then (below_then HR.out HR.out.size (below_alloc (Below.refl _ _) _)) (by have := HR.out.size; simp; omega) hb2)⟩, by simp [intOf]; omega⟩
        · go_wp2_with (go_at_call 35; refine (K3.out _).mono ?_; rintro e w2 ⟨rfl, hb2⟩)
          exact ⟨⟨k + 1, by omega, by go_num, by rw [HT.out, if_neg (fun h => by have := h.2; omega)], Lib.hid (below_then (below_then HR.out HR.out.size (below_alloc (Below.refl _ _) _)) (by have := HR.out.size; simp; omega) hb2)⟩, by simp [intOf]; omega⟩
      | false =>
        go_wp2
        exact ⟨⟨k + 1, by omega, by go_num, by rw [HT.out, if_neg (by simp)], Lib.hid (below_then HR.out HR.out.size (below_alloc (Below.refl _ _) _))⟩, by simp [intOf]; omega⟩
    · obtain rfl : k = 7 := by omega
      go_wp2
      go_ret
      exact ⟨rfl, below_then HB.out HB.out.size HR.out⟩
end Go.Proofs.Ytfkbknkmanphfaa.Q
