import Derived.Test.YtbcijdgpaglbnaaD
namespace Go.Proofs.Ytbcijdgpaglbnaa.Q
open Go.RowKit Go.Proofs.YtbcijdgpaglbnaaW.PrintWords Go.Deep Go.Sort
set_option linter.unusedVariables false
set_option linter.unusedSimpArgs false

/-! PUT -/
def four4 (n : Nat) : List Nat := [byteOf n 0, byteOf n 1, byteOf n 2, byteOf n 3]
theorem fourV_eq (n : Nat) : fourV n = bytesV (four4 n) := rfl
def frameB (L : List Nat) : List Nat := four4 L.length ++ (four4 (sumB L) ++ (L ++ [66]))
theorem bytesV_app (a b : List Nat) : bytesV a ++ bytesV b = bytesV (a ++ b) := by simp [bytesV]
theorem below_of_grown {w0 w w' : World} {row : Option Nat} (hB : Below w0.heap.size w0 w) (hg : w.grownBy w' row) (hr : ∀ k, row = some k → w0.heap.size ≤ k) : Below w0.heap.size w0 w' :=
  ⟨hg.os.trans hB.os, hg.tape.trans hB.tape, hg.output.trans hB.output, Nat.le_trans hB.size hg.size, fun k hk => (hg.block k (Nat.lt_of_lt_of_le hk hB.size) (fun h => by have := hr k h.symm; omega)).trans (hB.block k hk)⟩
theorem blocks_ne {W : World} {a b : Nat} {c d : Array Value} {t u : TypeId} {f g : Nat × Nat} (ha : W.heap[a]? = some (.cells c t f)) (hb : W.heap[b]? = some (.cells d u g)) (ht : t ≠ u) : a ≠ b := fun e => by
  subst e; rw [ha] at hb; injection hb with hb; injection hb with _ h2; exact ht h2
theorem own_blk {W : World} {base e size n : Nat} {v : Value} {xs : List Value} (h : W.ownsRow base e size v n xs) {g : Nat} (hg : v.ownBlock = some g) : ∃ c, W.heap[g]? = some (.cells c e (0, 0)) := by
  rcases h.2 with ⟨rfl, _⟩ | ⟨g', cap, cur, rfl, _, hgg, _⟩
  · simp [Value.ownBlock] at hg
  · simp [Value.ownBlock] at hg; subst hg; exact ⟨cur, hgg⟩
/-- a block of another type stays where a row grows -/
theorem kept_blk {W W' : World} {base n k : Nat} {v : Value} {xs : List Value} {c : Array Value} {t : TypeId} (h : W.ownsRow base 5 1 v n xs) (hk : W.heap[k]? = some (.cells c t (0, 0))) (ht : t ≠ 5) (hg : W.grownBy W' v.ownBlock) : W'.heap[k]? = some (.cells c t (0, 0)) := by
  rw [hg.block k (Array.getElem?_eq_some_iff.1 hk).1 (fun e => ?_)]
  · exact hk
  · obtain ⟨d, hd⟩ := own_blk h e.symm
    exact blocks_ne hk hd ht rfl
theorem blk_cells {W : World} {k : Nat} {L : List Value} {t : TypeId} (hk : W.heap[k]? = some (.cells L.toArray t (0, 0))) : ∀ j u, L[j]? = some u → W.cell? ((⟨k, 0, none⟩ : Addr).add j) = some u := fun j u hu => by
  rw [Addr.add_mid, Nat.zero_add, cell_of_row W k j _ _ _ hk]
  simpa using hu
theorem row_cells {w W : World} {b o : Nat} {L : List Nat} (hB : Below w.heap.size w W) (hc : ∀ i, i < L.length → w.cell? ⟨b, o + i, none⟩ = some (.int .u8 (L.getD i 0))) : ∀ j u, (bytesV L)[j]? = some u → W.cell? ((⟨b, o, none⟩ : Addr).add j) = some u := fun j u hu => by
  have hj : j < L.length := by have := (List.getElem?_eq_some_iff.1 hu).1; simpa [bytesV] using this
  rw [Addr.add_mid, pw_cell_below hB (hc j hj), ← hu]
  simp [bytesV, hj, List.getD_eq_getElem?_getD]
def PutPost (w : World) (L : List Nat) (e : Ending) (w' : World) : Prop :=
  Below w.heap.size w w' ∧ ∃ g c, e = .returned (.tuple #[.slice (some ⟨g, 0, none⟩) (L.length + 9) c, .int .i64 0]) ∧ w.heap.size ≤ g ∧ L.length + 9 ≤ c ∧ RdB w' (some ⟨g, 0, none⟩) (frameB L)
theorem put_end {w w7 : World} {L : List Nat} {v7 : Value} (hB : Below w.heap.size w w7) (h : w7.ownsRow w.heap.size 5 1 v7 (0 + 4 + 4 + L.length + 1) (bytesV (frameB L))) : PutPost w L (.returned (.tuple #[v7, .int .i64 0])) w7 := by
  rcases h.2 with ⟨_, h0⟩ | ⟨g, cap, cur, rfl, hg, _, hn, hm, _⟩
  · omega
  · have hl : (frameB L).length = L.length + 9 := by simp [frameB, four4]
    unfold maxLen at hm
    refine ⟨hB, g, cap, by rw [show 0 + 4 + 4 + L.length + 1 = L.length + 9 by omega], hg, by omega, by omega, fun _ => ⟨g, 0, rfl, fun i hi => ?_⟩⟩
    have := h.cells (g := g) rfl i (.int .u8 ((frameB L).getD i 0)) (by simp [bytesV, hi, List.getD_eq_getElem?_getD])
    rwa [Addr.add_mid] at this
theorem put_no (A : Option Addr) (c : Nat) (L : List Nat) (w : World) (h : ¬ (1 ≤ L.length ∧ L.length ≤ 1048576)) (hl : L.length ≤ 9223372036854775807) :
    Calls Try.prog 13 #[.slice A L.length c] w fun e w' => e = .returned (.tuple #[.slice none 0 0, .int .i64 30]) ∧ w = w' := by
  by_cases h1 : L.length < 1
  · go_enter Try.func13, Try.ntmps13
    go_wp2
    go_ret2
    exact ⟨rfl, rfl⟩
  · have h2 : 1048576 < L.length := by omega
    go_enter Try.func13, Try.ntmps13
    go_wp2
    go_ret2
    exact ⟨rfl, rfl⟩
set_option maxRecDepth 10000 in
set_option maxHeartbeats 4000000 in
theorem put_yes (A : Option Addr) (c : Nat) (L : List Nat) (w : World) (hr : RdB w A L) (hb : Bytes L) (h1 : 1 ≤ L.length) (h2 : L.length ≤ 1048576) :
    Calls Try.prog 13 #[.slice A L.length c] w (PutPost w L) := by
  obtain ⟨b, o, rfl, hcell⟩ := hr.2 (by omega)
  have HR := Lib.hid hr
  have HC := Lib.hid hcell
  have HB := Lib.hid hb
  obtain ⟨i0, hi, hz0, hz1, hz2⟩ := info_parts infoB
  have HI := Lib.hid (And.intro hi (And.intro hz0 (And.intro hz1 hz2)))
  have K4 := Lib.hid (fun (n : Nat) (W : World) (h : n < 4294967296) => four_calls n W h)
  clear hr hb hcell hi hz0 hz1 hz2
  go_enter Try.func13, Try.ntmps13
  go_wp2_with fail
  refine (K4.out L.length w (by omega)).mono ?_
  rintro e w1 ⟨rfl, hB⟩
  have HB1 := Lib.hid hB
  have KS := Lib.hid (sum_calls (some ⟨b, o, none⟩) c L w1 (HR.out.below hB) HB.out)
  clear hB
  rw [show (fourV (L.length)).toArray = #[.int .u8 (byteOf (L.length) 0 : Nat), .int .u8 (byteOf (L.length) 1 : Nat), .int .u8 (byteOf (L.length) 2 : Nat), .int .u8 (byteOf (L.length) 3 : Nat)] from rfl]
  obtain ⟨p0, hp0⟩ : ∃ x, byteOf (L.length) 0 = x := ⟨_, rfl⟩
  rw [hp0]
  obtain ⟨p1, hp1⟩ : ∃ x, byteOf (L.length) 1 = x := ⟨_, rfl⟩
  rw [hp1]
  obtain ⟨p2, hp2⟩ : ∃ x, byteOf (L.length) 2 = x := ⟨_, rfl⟩
  rw [hp2]
  obtain ⟨p3, hp3⟩ : ∃ x, byteOf (L.length) 3 = x := ⟨_, rfl⟩
  rw [hp3]
  have Hp : Hid (four4 (L.length) = [p0, p1, p2, p3]) := Lib.hid (by unfold four4; rw [hp0, hp1, hp2, hp3])
  clear hp0 hp1 hp2 hp3
  go_wp2_with fail
  refine KS.out.mono ?_
  rintro e w2 ⟨rfl, rfl⟩
  go_wp2_with fail
  refine (K4.out (sumB L) w1 (sumB_lt L)).mono ?_
  rintro e w2 ⟨rfl, hB⟩
  have HB2 := Lib.hid (below_then HB1.out HB1.out.size hB)
  clear hB KS HB1
  rw [show (fourV (sumB L)).toArray = #[.int .u8 (byteOf (sumB L) 0 : Nat), .int .u8 (byteOf (sumB L) 1 : Nat), .int .u8 (byteOf (sumB L) 2 : Nat), .int .u8 (byteOf (sumB L) 3 : Nat)] from rfl]
  obtain ⟨q0, hq0⟩ : ∃ x, byteOf (sumB L) 0 = x := ⟨_, rfl⟩
  rw [hq0]
  obtain ⟨q1, hq1⟩ : ∃ x, byteOf (sumB L) 1 = x := ⟨_, rfl⟩
  rw [hq1]
  obtain ⟨q2, hq2⟩ : ∃ x, byteOf (sumB L) 2 = x := ⟨_, rfl⟩
  rw [hq2]
  obtain ⟨q3, hq3⟩ : ∃ x, byteOf (sumB L) 3 = x := ⟨_, rfl⟩
  rw [hq3]
  have Hq : Hid (four4 (sumB L) = [q0, q1, q2, q3]) := Lib.hid (by unfold four4; rw [hq0, hq1, hq2, hq3])
  clear hq0 hq1 hq2 hq3
  have lw2 : w.heap.size ≤ w2.heap.size := HB2.out.size
  have sz1 : (w2.alloc (.cells #[.int .u8 p0, .int .u8 p1, .int .u8 p2, .int .u8 p3] 46)).heap.size = w2.heap.size + 1 := by simp
  have P1 : ((w2.alloc (.cells #[.int .u8 p0, .int .u8 p1, .int .u8 p2, .int .u8 p3] 46)).alloc (.cells #[.int .u8 q0, .int .u8 q1, .int .u8 q2, .int .u8 q3] 46)).heap[w2.heap.size]? = some (.cells (bytesV [p0, p1, p2, p3]).toArray 46 (0, 0)) := by
    rw [heap_alloc_old _ _ (by omega)]; exact heap_alloc_new w2 _
  have Q1 : ((w2.alloc (.cells #[.int .u8 p0, .int .u8 p1, .int .u8 p2, .int .u8 p3] 46)).alloc (.cells #[.int .u8 q0, .int .u8 q1, .int .u8 q2, .int .u8 q3] 46)).heap[w2.heap.size + 1]? = some (.cells (bytesV [q0, q1, q2, q3]).toArray 46 (0, 0)) := by
    rw [← sz1]; exact heap_alloc_new _ _
  have B1 := below_alloc (below_alloc HB2.out (.cells #[.int .u8 p0, .int .u8 p1, .int .u8 p2, .int .u8 p3] 46)) (.cells #[.int .u8 q0, .int .u8 q1, .int .u8 q2, .int .u8 q3] 46)
  have H1 := Lib.hid (And.intro P1 (And.intro Q1 B1))
  clear P1 Q1 B1 sz1
  go_wp2_with (first
    | (at_make; refine wpList_make_own _ rfl _ _ 25 rfl w.heap.size 5 i0 (.int .u8 0) 1 Try.underlying25 HI.out.1 HI.out.2.1 HI.out.2.2.1 .i64 .i64 _ (L.length + 9) rfl rfl (by push_cast; omega) (by rw [HI.out.2.2.2]; omega) (by unfold maxLen; omega) (by simp; omega) ?_; intro w3 hown3 hgrow3; simp only [World.size_alloc] at hown3; have H3 : Hid (w3.heap[w2.heap.size]? = some (.cells (bytesV [p0, p1, p2, p3]).toArray 46 (0, 0)) ∧ w3.heap[w2.heap.size + 1]? = some (.cells (bytesV [q0, q1, q2, q3]).toArray 46 (0, 0)) ∧ Below w.heap.size w w3) := Lib.hid ⟨(hgrow3.block _ (Array.getElem?_eq_some_iff.1 H1.out.1).1 (by simp)).trans H1.out.1, (hgrow3.block _ (Array.getElem?_eq_some_iff.1 H1.out.2.1).1 (by simp)).trans H1.out.2.1, below_of_grown H1.out.2.2 hgrow3 (fun k hk => by cases hk)⟩; have O3 := Lib.hid hown3; clear hown3 hgrow3 H1)
    | (at_builtin; refine wpList_append_own _ rfl (.tmp 27) (.tmp 28) 25 rfl w.heap.size 5 i0 (.int .u8 0) 1 1 Try.underlying25 HI.out.1 HI.out.2.1 HI.out.2.2.1 HI.out.2.2.2 rfl (by decide) _ _ _ rfl O3.out ⟨w2.heap.size, 0, none⟩ 4 4 (bytesV [p0, p1, p2, p3]) rfl rfl (blk_cells H3.out.1) (by simp [bytesV, Value.oneCell']) (by unfold maxLen; omega) (by omega) H3.out.2.2.size ?_; intro v4 w4 hown4 hgrow4 _; have H4 : Hid (w4.heap[w2.heap.size + 1]? = some (.cells (bytesV [q0, q1, q2, q3]).toArray 46 (0, 0)) ∧ Below w.heap.size w w4) := Lib.hid ⟨kept_blk O3.out H3.out.2.1 (by decide) hgrow4, below_of_grown H3.out.2.2 hgrow4 (fun k hk => (O3.out.lt k hk).1)⟩; have O4 := Lib.hid hown4; clear hown4 hgrow4 O3 H3)
    | (at_builtin; refine wpList_append_own _ rfl (.tmp 30) (.tmp 31) 25 rfl w.heap.size 5 i0 (.int .u8 0) 1 1 Try.underlying25 HI.out.1 HI.out.2.1 HI.out.2.2.1 HI.out.2.2.2 rfl (by decide) _ _ _ rfl O4.out ⟨w2.heap.size + 1, 0, none⟩ 4 4 (bytesV [q0, q1, q2, q3]) rfl rfl (blk_cells H4.out.1) (by simp [bytesV, Value.oneCell']) (by unfold maxLen; omega) (by omega) H4.out.2.size ?_; intro v5 w5 hown5 hgrow5 _; have H5 : Hid (Below w.heap.size w w5) := Lib.hid (below_of_grown H4.out.2 hgrow5 (fun k hk => (O4.out.lt k hk).1)); have O5 := Lib.hid hown5; clear hown5 hgrow5 O4 H4)
    | (at_builtin; refine wpList_append_own _ rfl (.tmp 33) (.tmp 34) 25 rfl w.heap.size 5 i0 (.int .u8 0) 1 1 Try.underlying25 HI.out.1 HI.out.2.1 HI.out.2.2.1 HI.out.2.2.2 rfl (by decide) _ _ _ rfl O5.out ⟨b, o, none⟩ L.length c (bytesV L) rfl (by simp [bytesV]) (row_cells H5.out HC.out) (by simp [bytesV, Value.oneCell']) (by unfold maxLen; omega) (by omega) H5.out.size ?_; intro v6 w6 hown6 hgrow6 _; have H6 : Hid (Below w.heap.size w w6) := Lib.hid (below_of_grown H5.out hgrow6 (fun k hk => (O5.out.lt k hk).1)); have O6 := Lib.hid hown6; clear hown6 hgrow6 O5 H5)
    | (at_builtin; refine wpList_append_own _ rfl (.tmp 36) (.tmp 37) 25 rfl w.heap.size 5 i0 (.int .u8 0) 1 1 Try.underlying25 HI.out.1 HI.out.2.1 HI.out.2.2.1 HI.out.2.2.2 rfl (by decide) _ _ _ rfl (O6.out.alloc _) ⟨w6.heap.size, 0, none⟩ 1 1 (bytesV [66]) rfl rfl (blk_cells (heap_alloc_new w6 _)) (by simp [bytesV, Value.oneCell']) (by unfold maxLen; omega) (by omega) (by have := H6.out.size; simp; omega) ?_; intro v7 w7 hown7 hgrow7 _; have H7 : Hid (Below w.heap.size w w7) := Lib.hid (below_of_grown (below_alloc H6.out _) hgrow7 (fun k hk => (O6.out.lt k hk).1)); have O7 := Lib.hid hown7; clear hown7 hgrow7 O6 H6))
  go_ret2
  have hxs : ((([] ++ bytesV [p0, p1, p2, p3]) ++ bytesV [q0, q1, q2, q3]) ++ bytesV L) ++ bytesV [66] = bytesV (frameB L) := by
    unfold frameB
    rw [Hp.out, Hq.out, List.nil_append, bytesV_app, bytesV_app, bytesV_app]
    simp
  have HO := O7.out
  rw [hxs] at HO
  exact put_end H7.out HO
end Go.Proofs.Ytbcijdgpaglbnaa.Q
