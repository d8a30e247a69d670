import Derived.Test.YtfkbknkmanphfaaB
import Derived.StillTailTactics
namespace Go.Proofs.Ytfkbknkmanphfaa.Q
open Go.RowKit Go.Proofs.YtfkbknkmanphfaaW.PrintWords
set_option linter.unusedVariables false
set_option linter.unusedSimpArgs false

def cmpZ (e1 n1 e2 n2 : Int) : Int := if e1 < e2 then -1 else if e2 < e1 then 1 else if n1 < n2 then -1 else if n2 < n1 then 1 else 0
theorem cmp_calls (e1 n1 e2 n2 : Int) (w : World) :
    Calls Try.prog 35 #[.agg #[.int .u32 e1, .int .u32 n1], .agg #[.int .u32 e2, .int .u32 n2]] w fun e w' => e = .returned (.int .i64 (cmpZ e1 n1 e2 n2)) ∧ Below w.heap.size w w' := by
  refine PQuorumNews.txn_Compare.calls 3 e1 n1 e2 n2 _ w ?_
  unfold PQuorumNews.txn_Compare.f PQuorumNews.cmp_Compare_uint32.f PQuorumNews.cmp_isNaN_uint32.f cmpZ
  simp only [bne_self_eq_false, Option.bind_some, Bool.false_eq_true, if_false]
  by_cases h1 : e1 < e2
  · rw [if_pos h1]
    by_cases h3 : n1 < n2 <;> by_cases h4 : n2 < n1 <;> simp [h1, h3, h4, PQuorumNews.cmp_Or_int.f, PQuorumNews.cmp_Or_int.l0, rd]
  · by_cases h2 : e2 < e1
    · rw [if_neg h1, if_pos h2]
      by_cases h3 : n1 < n2 <;> by_cases h4 : n2 < n1 <;> simp [h1, h2, h3, h4, PQuorumNews.cmp_Or_int.f, PQuorumNews.cmp_Or_int.l0, rd]
    · rw [if_neg h1, if_neg h2]
      by_cases h3 : n1 < n2 <;> by_cases h4 : n2 < n1 <;> simp [h1, h2, h3, h4, PQuorumNews.cmp_Or_int.f, PQuorumNews.cmp_Or_int.l0, rd, wrap64]

/-- a System whose memory lies below block N -/
structure SysN (N : Nat) (w : World) (b : Nat) (ws gs : List Int) : Prop where
  v : Valid ws gs
  mem : ∃ (aw ag : Addr) (cw cg : Nat), b < N ∧ aw.block < N ∧ ag.block < N ∧ w.cell? ⟨b, 0, none⟩ = some (.slice (some aw) ws.length cw) ∧ w.cell? ⟨b, 1, none⟩ = some (.slice (some ag) ws.length cg) ∧
    (∀ g : Nat, g < 7 → w.cell? ⟨b, 2 + g, none⟩ = some (.int .i64 (wsum ws gs (fun _ => true) g ws.length))) ∧ w.cell? ⟨b, 9, none⟩ = some (.int .i64 (cntTo ws gs 7)) ∧
    (∀ i, i < ws.length → w.cell? (aw.add i) = some (.int .i64 (ws.getD i 0))) ∧ (∀ i, i < ws.length → w.cell? (ag.add i) = some (.int .i64 (gs.getD i 0)))
theorem SysN.sys {N : Nat} {w : World} {b : Nat} {ws gs : List Int} (h : SysN N w b ws gs) : Sys w b ws gs := by
  obtain ⟨v, aw, ag, cw, cg, _, _, _, h0, h1, h2, h3, h4, h5⟩ := h
  exact ⟨v, aw, ag, cw, cg, h0, h1, h2, h3, h4, h5⟩
theorem add_block (a : Addr) (i : Nat) : (a.add i).block = a.block := by unfold Addr.add; split <;> rfl
theorem Sys.n {w : World} {b : Nat} {ws gs : List Int} (h : Sys w b ws gs) : SysN w.heap.size w b ws gs := by
  obtain ⟨v, aw, ag, cw, cg, h0, h1, h2, h3, h4, h5⟩ := h
  have p := v.pos
  have b4 := World.block_lt_of_cell? w _ (h4 0 (by omega))
  have b5 := World.block_lt_of_cell? w _ (h5 0 (by omega))
  rw [add_block] at b4 b5
  exact ⟨v, aw, ag, cw, cg, World.block_lt_of_cell? w _ h0, b4, b5, h0, h1, h2, h3, h4, h5⟩
theorem SysN.keep {N : Nat} {w w1 : World} {b : Nat} {ws gs : List Int} (h : SysN N w b ws gs) (hk : ∀ k, k < N → w1.heap[k]? = w.heap[k]?) : SysN N w1 b ws gs := by
  obtain ⟨v, aw, ag, cw, cg, l0, l1, l2, h0, h1, h2, h3, h4, h5⟩ := h
  have key : ∀ {p : Addr} {x : Value}, p.block < N → w.cell? p = some x → w1.cell? p = some x := fun {p x} hp hx => (World.cell?_of_block (w := w) (hk p.block hp)).trans hx
  exact ⟨v, aw, ag, cw, cg, l0, l1, l2, key l0 h0, key l0 h1, fun g hg => key l0 (h2 g hg), key l0 h3, fun i hi => key (by rw [add_block]; exact l1) (h4 i hi), fun i hi => key (by rw [add_block]; exact l2) (h5 i hi)⟩
theorem SysN.mono {N M : Nat} {w : World} {b : Nat} {ws gs : List Int} (h : SysN N w b ws gs) (hm : N ≤ M) : SysN M w b ws gs := by
  obtain ⟨v, aw, ag, cw, cg, l0, l1, l2, h⟩ := h
  exact ⟨v, aw, ag, cw, cg, by omega, by omega, by omega, h⟩

structure Ak where
  s : Bool
  e : Int
  n : Int
def ackArr (b : Nat) (f : Nat → Ak) : Array Value := #[.pointer (some ⟨b, 0, none⟩),
  .bool (f 0).s, .int .u32 (f 0).e, .int .u32 (f 0).n, .bool (f 1).s, .int .u32 (f 1).e, .int .u32 (f 1).n, .bool (f 2).s, .int .u32 (f 2).e, .int .u32 (f 2).n, .bool (f 3).s, .int .u32 (f 3).e, .int .u32 (f 3).n,
  .bool (f 4).s, .int .u32 (f 4).e, .int .u32 (f 4).n, .bool (f 5).s, .int .u32 (f 5).e, .int .u32 (f 5).n, .bool (f 6).s, .int .u32 (f 6).e, .int .u32 (f 6).n]
structure Acks (w : World) (a b : Nat) (ws gs : List Int) (f : Nat → Ak) : Prop where
  sys : SysN a w b ws gs
  blk : w.heap[a]? = some (.cells (ackArr b f) 71 (0, 0))

theorem newAcks_sys (b : Nat) (ws gs : List Int) (w : World) (h : Sys w b ws gs) :
    Calls Try.prog 12 #[.pointer (some ⟨b, 0, none⟩)] w fun e w' => ∃ a, e = .returned (.tuple #[.pointer (some ⟨a, 0, none⟩), .int .i64 0]) ∧ w.heap.size ≤ a ∧ Acks w' a b ws gs (fun _ => ⟨false, 0, 0⟩) ∧ Below w.heap.size w w' := by
  have H := Lib.hid h
  clear h
  go_enter Try.func12, Try.ntmps12
  go_wp2_with (go_at_call 33; refine (zero_sys _ _ _ _ H.out).mono ?_; rintro e w' ⟨rfl, rfl⟩)
  go_ret2
  exact ⟨_, rfl, Nat.le_refl _, ⟨(H.out.n).keep (fun k hk => heap_alloc_old _ _ hk), heap_alloc_new w _⟩, below_alloc (Below.refl _ _) _⟩

def validB (ws : List Int) (n : Int) : Bool := decide (0 ≤ n) && decide (n < ws.length)
theorem hasA_acks (a b : Nat) (ws gs : List Int) (w : World) (hs : Sys w b ws gs) (hp : w.cell? ⟨a, 0, none⟩ = some (.pointer (some ⟨b, 0, none⟩))) (n : Int) (hn : -128 ≤ n ∧ n ≤ 127) :
    Calls Try.prog 34 #[.pointer (some ⟨a, 0, none⟩), .int .i8 n] w fun e w' => e = .returned (.bool (validB ws n)) ∧ w = w' := by
  have K := Lib.hid (is_sys b ws gs w hs n hn)
  clear hs hn
  go_enter Try.func34, Try.ntmps34
  go_wp2_with (go_at_call 39; refine K.out.mono ?_; rintro e w' ⟨rfl, rfl⟩)
  go_ret
  exact ⟨rfl, rfl⟩

theorem ack_get (b : Nat) (f : Nat → Ak) (m : Nat) (hm : m < 7) : (ackArr b f)[1 + m * 3]? = some (.bool (f m).s) ∧ (ackArr b f)[1 + m * 3 + 1]? = some (.int .u32 (f m).e) ∧ (ackArr b f)[1 + m * 3 + 2]? = some (.int .u32 (f m).n) := by
  have : m = 0 ∨ m = 1 ∨ m = 2 ∨ m = 3 ∨ m = 4 ∨ m = 5 ∨ m = 6 := by omega
  rcases this with rfl | rfl | rfl | rfl | rfl | rfl | rfl <;> exact ⟨rfl, rfl, rfl⟩

theorem ack_set (b : Nat) (f f' : Nat → Ak) (m : Nat) (hm : m < 7) (e n : Int) (h1 : f' m = ⟨true, e, n⟩) (h2 : ∀ j, j ≠ m → f' j = f j) :
    (((ackArr b f).setIfInBounds (1 + m * 3) (.bool true)).setIfInBounds (1 + m * 3 + 1) (.int .u32 e)).setIfInBounds (1 + m * 3 + 2) (.int .u32 n) = ackArr b f' := by
  have : m = 0 ∨ m = 1 ∨ m = 2 ∨ m = 3 ∨ m = 4 ∨ m = 5 ∨ m = 6 := by omega
  rcases this with rfl | rfl | rfl | rfl | rfl | rfl | rfl
  · simp [ackArr, h1, h2 1, h2 2, h2 3, h2 4, h2 5, h2 6]
  · simp [ackArr, h1, h2 0, h2 2, h2 3, h2 4, h2 5, h2 6]
  · simp [ackArr, h1, h2 0, h2 1, h2 3, h2 4, h2 5, h2 6]
  · simp [ackArr, h1, h2 0, h2 1, h2 2, h2 4, h2 5, h2 6]
  · simp [ackArr, h1, h2 0, h2 1, h2 2, h2 3, h2 5, h2 6]
  · simp [ackArr, h1, h2 0, h2 1, h2 2, h2 3, h2 4, h2 6]
  · simp [ackArr, h1, h2 0, h2 1, h2 2, h2 3, h2 4, h2 5]

/-- what Put turns -/
def putA (f : Nat → Ak) (m : Nat) (ze zn : Int) : Nat → Ak := fun i => if i = m ∧ ((f m).s = false ∨ cmpZ (f m).e (f m).n ze zn < 0) then ⟨true, ze, zn⟩ else f i

theorem put_no (a b : Nat) (ws gs : List Int) (f : Nat → Ak) (w : World) (h : Acks w a b ws gs f) (n ze zn : Int) (hn : -128 ≤ n ∧ n ≤ 127) (hv : validB ws n = false) :
    Calls Try.prog 14 #[.pointer (some ⟨a, 0, none⟩), .int .i8 n, .agg #[.int .u32 ze, .int .u32 zn]] w fun e w' => e = .returned (.int .i64 1) ∧ Below w.heap.size w w' := by
  have hb := h.sys.sys.below (below_alloc (Below.refl w.heap.size w) (Obj.cells #[Value.int IntKind.u32 ze, Value.int IntKind.u32 zn] 44))
  have hp := cell_of_row w a 0 _ _ _ h.blk
  have K := hasA_acks a b ws gs _ hb (pw_cell_below (below_alloc (Below.refl w.heap.size w) (Obj.cells #[Value.int IntKind.u32 ze, Value.int IntKind.u32 zn] 44)) hp) n hn
  have K2 := calls_eq K (congrArg Value.bool hv)
  clear K hv hp
  go_enter Try.func14, Try.ntmps14
  go_wp2_with (go_at_call 34; refine K2.out.mono ?_; rintro e w' ⟨rfl, rfl⟩)
  go_ret
  exact ⟨rfl, below_alloc (Below.refl _ _) _⟩

/-- the facts that Put's walk wants -/
theorem put_facts (a b : Nat) (ws gs : List Int) (f : Nat → Ak) (w : World) (h : Acks w a b ws gs f) (m : Nat) (ze zn : Int) (hm : m < ws.length) :
    ∃ W, Hid (w.alloc (Obj.cells #[Value.int IntKind.u32 ze, Value.int IntKind.u32 zn] 44) = W) ∧ Hid (Below w.heap.size w W) ∧ m < 7 ∧ a < w.heap.size ∧ Hid (W.heap[a]? = some (.cells (ackArr b f) 71 (0, 0))) ∧
      W.cell? ⟨w.heap.size, 0, none⟩ = some (.int .u32 ze) ∧ W.cell? ⟨w.heap.size, 1, none⟩ = some (.int .u32 zn) ∧
      W.cell? ⟨a, 1 + m * 3, none⟩ = some (.bool (f m).s) ∧ W.cell? ⟨a, 1 + m * 3 + 1, none⟩ = some (.int .u32 (f m).e) ∧ W.cell? ⟨a, 1 + m * 3 + 2, none⟩ = some (.int .u32 (f m).n) ∧
      Hid (Calls Try.prog 34 #[.pointer (some ⟨a, 0, none⟩), .int .i8 m] W fun e w' => e = .returned (.bool true) ∧ W = w') := by
  have h7 := h.sys.v.le7
  have ha := (Array.getElem?_eq_some_iff.1 h.blk).1
  have hB := below_alloc (Below.refl w.heap.size w) (Obj.cells #[Value.int IntKind.u32 ze, Value.int IntKind.u32 zn] 44)
  have hblk := (hB.block a ha).trans h.blk
  obtain ⟨g0, g1, g2⟩ := ack_get b f m (by omega)
  rw [← cell_of_row _ a _ _ _ _ hblk] at g0 g1 g2
  have hp := cell_of_row _ a 0 _ _ _ hblk
  have K := hasA_acks a b ws gs _ (h.sys.sys.below hB) hp m (by omega)
  exact ⟨_, Lib.hid rfl, Lib.hid hB, by omega, ha, Lib.hid hblk, World.cell?_alloc_new w _ _ _, World.cell?_alloc_new w _ _ _, g0, g1, g2, calls_eq K (congrArg Value.bool (by simp [validB]; omega))⟩

theorem ack_cells {w : World} {a b : Nat} {f : Nat → Ak} (h : w.heap[a]? = some (.cells (ackArr b f) 71 (0, 0))) (m : Nat) (hm : m < 7) :
    w.cell? ⟨a, 1 + m * 3, none⟩ = some (.bool (f m).s) ∧ w.cell? ⟨a, 1 + m * 3 + 1, none⟩ = some (.int .u32 (f m).e) ∧ w.cell? ⟨a, 1 + m * 3 + 2, none⟩ = some (.int .u32 (f m).n) ∧
    w.frozen? ⟨a, 1 + m * 3, none⟩ = false ∧ w.frozen? ⟨a, 1 + m * 3 + 1, none⟩ = false ∧ w.frozen? ⟨a, 1 + m * 3 + 2, none⟩ = false := by
  obtain ⟨g0, g1, g2⟩ := ack_get b f m hm
  rw [← cell_of_row _ a _ _ _ _ h] at g0 g1 g2
  exact ⟨g0, g1, g2, frozen_of_row w a _ _ _ h, frozen_of_row w a _ _ _ h, frozen_of_row w a _ _ _ h⟩

theorem ack_stored {w w2 : World} {a b : Nat} {f : Nat → Ak} (hk : w2.heap[a]? = some (.cells (ackArr b f) 71 (0, 0))) (ho : Only (fun k => k = a) w w2) (m : Nat) (hm : m < 7) (ze zn : Int) (hc : (f m).s = false ∨ cmpZ (f m).e (f m).n ze zn < 0) :
    Only (fun k => k = a) w (((w2.setCell { block := a, off := 1 + m * 3 } (Value.bool true)).setCell { block := a, off := 1 + m * 3 + 1 } (Value.int IntKind.u32 ze)).setCell { block := a, off := 1 + m * 3 + 2 } (Value.int IntKind.u32 zn)) ∧
    (((w2.setCell { block := a, off := 1 + m * 3 } (Value.bool true)).setCell { block := a, off := 1 + m * 3 + 1 } (Value.int IntKind.u32 ze)).setCell { block := a, off := 1 + m * 3 + 2 } (Value.int IntKind.u32 zn)).heap[a]? = some (.cells (ackArr b (putA f m ze zn)) 71 (0, 0)) := by
  refine ⟨((ho.setCell (.inl rfl) _).setCell (.inl rfl) _).setCell (.inl rfl) _, ?_⟩
  rw [heap_setCell_same _ _ _ _ _ _ (heap_setCell_same _ _ _ _ _ _ (heap_setCell_same _ _ _ _ _ _ hk))]
  rw [ack_set b f (putA f m ze zn) m hm ze zn (by simp [putA, hc]) (by intro j hj; simp [putA, hj])]

theorem putA_no (f : Nat → Ak) (m : Nat) (ze zn : Int) (hc : ¬ ((f m).s = false ∨ cmpZ (f m).e (f m).n ze zn < 0)) : putA f m ze zn = f := by
  funext i
  simp only [putA]
  rw [if_neg (fun h => hc h.2)]

set_option maxHeartbeats 1000000 in
theorem put_yes (a b : Nat) (ws gs : List Int) (f : Nat → Ak) (w : World) (h : Acks w a b ws gs f) (m : Nat) (ze zn : Int) (hm : m < ws.length) :
    Calls Try.prog 14 #[.pointer (some ⟨a, 0, none⟩), .int .i8 m, .agg #[.int .u32 ze, .int .u32 zn]] w fun e w' => e = .returned (.int .i64 0) ∧ Only (fun k => k = a) w w' ∧ w'.heap[a]? = some (.cells (ackArr b (putA f m ze zn)) 71 (0, 0)) := by
  obtain ⟨W, HW, HB, h7, ha, hblk, z0, z1, g0, g1, g2, K2⟩ := put_facts a b ws gs f w h m ze zn hm
  have hsz : Hid (W.heap.size = w.heap.size + 1) := Lib.hid (by rw [← HW.out]; simp)
  clear h hm
  cases hs : (f m).s with
  | true =>
    rw [hs] at g0
    have K3 := cmp_calls (f m).e (f m).n ze zn
    obtain ⟨fe, hfe⟩ : ∃ x, (f m).e = x := ⟨_, rfl⟩
    obtain ⟨fn, hfn⟩ : ∃ x, (f m).n = x := ⟨_, rfl⟩
    rw [hfe] at g1 K3
    rw [hfn] at g2 K3
    by_cases hc : cmpZ fe fn ze zn < 0
    · have HC : Hid ((f m).s = false ∨ cmpZ (f m).e (f m).n ze zn < 0) := Lib.hid (.inr (by rw [hfe, hfn]; exact hc))
      clear hfe hfn hs
      go_enter Try.func14, Try.ntmps14
      go_wp2_with fail
      rw [HW.out]
      refine K2.out.mono ?_
      rintro e w' ⟨rfl, rfl⟩
      go_wp2_with fail
      go_still_tail 11, (by kernel_rfl)
      change wpList _ _ _ _ _ W.drew
      go_wp2_with fail
      refine (K3 W.drew).mono ?_
      rintro e w2 ⟨rfl, hb2⟩
      have hb3 : Below W.heap.size W w2 := ⟨hb2.os, hb2.tape, hb2.output, hb2.size, hb2.block⟩
      have hk2 : w2.heap[a]? = some (.cells (ackArr b f) 71 (0, 0)) := (hb3.block a (by have := hsz.out; omega)).trans hblk.out
      obtain ⟨c0, c1, c2, f0, f1, f2⟩ := ack_cells hk2 m h7
      have y0 := pw_cell_below hb3 z0
      have y1 := pw_cell_below hb3 z1
      have HF := Lib.hid (ack_stored hk2 ((Only.of_below HB.out).then_below hb3) m h7 ze zn HC.out)
      clear hb2 hb3 hk2 K3 z0 z1 g0 g1 g2
      go_wp2
      go_ret
      exact ⟨rfl, HF.out⟩
    · have HC : Hid (putA f m ze zn = f) := Lib.hid (putA_no f m ze zn (by rw [hs, hfe, hfn]; simp [hc]))
      clear hfe hfn hs
      go_enter Try.func14, Try.ntmps14
      go_wp2_with fail
      rw [HW.out]
      refine K2.out.mono ?_
      rintro e w' ⟨rfl, rfl⟩
      go_wp2_with fail
      go_still_tail 11, (by kernel_rfl)
      change wpList _ _ _ _ _ W.drew
      go_wp2_with fail
      refine (K3 W.drew).mono ?_
      rintro e w2 ⟨rfl, hb2⟩
      have hb3 : Below W.heap.size W w2 := ⟨hb2.os, hb2.tape, hb2.output, hb2.size, hb2.block⟩
      have hk2 : w2.heap[a]? = some (.cells (ackArr b f) 71 (0, 0)) := (hb3.block a (by have := hsz.out; omega)).trans hblk.out
      have HF := Lib.hid (And.intro ((Only.of_below (S := fun k => k = a) HB.out).then_below hb3) hk2)
      clear hb2 hb3 hk2 K3 z0 z1 g0 g1 g2
      go_wp2
      go_ret
      exact ⟨rfl, HF.out.1, by rw [HC.out]; exact HF.out.2⟩
  | false =>
    rw [hs] at g0
    have hb3 : Below W.heap.size W W.drew := (Below.refl _ _).drew
    have hk2 : W.drew.heap[a]? = some (.cells (ackArr b f) 71 (0, 0)) := hblk.out
    have HF := Lib.hid (ack_stored hk2 ((Only.of_below HB.out).then_below hb3) m h7 ze zn (.inl hs))
    have ff := ack_cells hblk.out m h7
    obtain ⟨-, -, -, f0, f1, f2⟩ := ff
    clear hs hb3 hk2
    go_enter Try.func14, Try.ntmps14
    go_wp2_with fail
    rw [HW.out]
    refine K2.out.mono ?_
    rintro e w' ⟨rfl, rfl⟩
    go_wp2_with fail
    go_still_tail 11, (by kernel_rfl)
    change wpList _ _ _ _ _ W.drew
    go_wp2
    go_ret
    exact ⟨rfl, HF.out⟩
end Go.Proofs.Ytfkbknkmanphfaa.Q
