import Derived.Test.YtbcijdgpaglbnaaK
namespace Go.Proofs.Ytbcijdgpaglbnaa.Q
open Go.RowKit Go.Shelf Go.Proofs.YtbcijdgpaglbnaaW.PrintWords Go.Deep
set_option linter.unusedVariables false
set_option linter.unusedSimpArgs false
theorem func_eql (fn : Fn) (a b : Array Value) (W : World) : (binOp .eql 41 (.func fn a b) .nilFunc).run Try.prog W = .ok (.bool false) W := by
  simp only [binOp]
  simp [func_equal]
attribute [local go_sem] Oper.semAt_some nil_neq some_neq func_eql

/-! THROUGH -/
theorem nine_le (L : List Nat) (k : Nat) (hk : k ≤ cnt L) : 9 * k ≤ posTo L k ∧ posTo L k ≤ L.length := by
  induction k with
  | zero => exact ⟨Nat.le_refl _, Nat.zero_le _⟩
  | succ k ih =>
    obtain ⟨h1, h2⟩ := ih (by omega)
    obtain ⟨m, hm⟩ := Option.isSome_iff_exists.1 (cnt_some L k (by omega))
    have := body_fits hm
    rw [posTo_succ hm]; omega
theorem cnt_le (L : List Nat) : cnt L ≤ L.length := by have := nine_le L (cnt L) (Nat.le_refl _); omega
def placeV (x : Nat × Nat × Nat) : Value := .int .i64 ((x.1 : Int) + (8 + (x.2.1 : Int) + 1))
def bodyV (x : Nat × Nat × Nat) : Value := .slice (some ⟨x.2.2, 0, none⟩) x.2.1 x.2.1
/-- what has been gone through lies in two lists -/
def SeenI (w : World) (b : Nat) (L : List Nat) (xs : List (Nat × Nat × Nat)) (A : World) : Prop :=
  ∃ v1 v2, A.heap[w.heap.size + 1]? = some (.cells #[v1, v2] 30 (0, 0)) ∧ A.ownsRow b 3 1 v1 xs.length (xs.map placeV) ∧ A.ownsRow b 25 1 v2 xs.length (xs.map bodyV) ∧
    (∀ x, x ∈ xs → b ≤ x.2.2 ∧ A.heap[x.2.2]? = some (.cells (bytesV (bodyAt L x.1 x.2.1)).toArray 5 (0, 0))) ∧
    A.heap[w.heap.size]? = some (.cells #[.slice none 0 0, .slice none 0 0] 30 (0, 0)) ∧ Below w.heap.size w A
theorem infoI : (Try.prog.info? 3).map (fun i => (i.zero, i.size, i.bytes)) = some (some (.int .i64 0), 1, 8) := by kernel_rfl
theorem infoS : (Try.prog.info? 25).map (fun i => (i.zero, i.size, i.bytes)) = some (some (.slice none 0 0), 1, 24) := by kernel_rfl
theorem own_kept {W W' : World} {base e size n : Nat} {v : Value} {xs : List Value} {row : Option Nat} (h : W.ownsRow base e size v n xs) (hg : W.grownBy W' row) (hr : ∀ r, row = some r → ∃ o : Obj, W.heap[r]? = some o ∧ o.isCells = false) : W'.ownsRow base e size v n xs := by
  refine h.kept hg ?_
  rcases h.2 with ⟨rfl, _⟩ | ⟨g, cap, cur, rfl, _, hgb, _⟩
  · exact .inl rfl
  · refine .inr fun e' => ?_
    obtain ⟨o, ho, hc⟩ := hr g (by simpa [Value.ownBlock] using e'.symm)
    rw [hgb] at ho; cases ho; cases hc
theorem seen_own (w : World) (b : Nat) (L : List Nat) (B : Nat) (hB : w.heap.size ≤ B) : OwnFrom B (SeenI w b L) := by
  rintro xs A C row ⟨v1, v2, h1, h2, h3, h4, h5, h6⟩ hg hr
  have hr' : ∀ r, row = some r → ∃ o : Obj, A.heap[r]? = some o ∧ o.isCells = false := fun r e => (hr r e).2
  exact ⟨v1, v2, (grownBy_keeps_cells hg hr' h1 rfl).trans h1, own_kept h2 hg hr', own_kept h3 hg hr', fun x hx => ⟨(h4 x hx).1, (grownBy_keeps_cells hg hr' (h4 x hx).2 rfl).trans (h4 x hx).2⟩, (grownBy_keeps_cells hg hr' h5 rfl).trans h5,
    below_of_grown h6 hg (fun k e => by have := (hr k e).1; omega)⟩
theorem own_only {W W' : World} {base e size n : Nat} {v : Value} {xs : List Value} {S : Nat → Prop} (h : W.ownsRow base e size v n xs) (ho : Only S W W') (hS : ∀ k, base ≤ k → ¬ S k) : W'.ownsRow base e size v n xs :=
  ⟨h.1, h.2.imp id fun ⟨g, cap, cur, hv, hb, hg, r⟩ => ⟨g, cap, cur, hv, hb, (ho.keep (Array.getElem?_eq_some_iff.1 hg).1 (hS g hb)).trans hg, r⟩⟩
theorem own_slice {W : World} {base e size n : Nat} {v : Value} {xs : List Value} (h : W.ownsRow base e size v n xs) : ∃ a k c, v = .slice a k c := by
  rcases h.2 with ⟨rfl, _⟩ | ⟨g, cap, cur, rfl, _⟩
  · exact ⟨_, _, _, rfl⟩
  · exact ⟨_, _, _, rfl⟩
theorem own_base {W : World} {base b e size n : Nat} {v : Value} {xs : List Value} (h : W.ownsRow base e size v n xs) (hb : b ≤ base) : W.ownsRow b e size v n xs :=
  ⟨h.1, h.2.imp id fun ⟨g, cap, cur, hv, hb', r⟩ => ⟨g, cap, cur, hv, Nat.le_trans hb hb', r⟩⟩
theorem seen_only (w : World) (B m : Nat) (L : List Nat) (hB : w.heap.size + 2 ≤ B) (xs : List (Nat × Nat × Nat)) (A C : World) (h : SeenI w (B + m) L xs A) (ho : Only (fun k => B ≤ k ∧ k < B + m) A C) : SeenI w (B + m) L xs C := by
  obtain ⟨v1, v2, h1, h2, h3, h4, h5, h6⟩ := h
  exact ⟨v1, v2, (ho.keep (Array.getElem?_eq_some_iff.1 h1).1 (by omega)).trans h1, own_only h2 ho (fun k hk => by omega), own_only h3 ho (fun k hk => by omega),
    fun x hx => ⟨(h4 x hx).1, (ho.keep (Array.getElem?_eq_some_iff.1 (h4 x hx).2).1 (by have := (h4 x hx).1; omega)).trans (h4 x hx).2⟩,
    (ho.keep (Array.getElem?_eq_some_iff.1 h5).1 (by omega)).trans h5, ho.from h6 (fun k hk => by omega)⟩
/-- what an append to one list leaves of the rest -/
structure Stays (e b : Nat) (A W : World) : Prop where
  others : KeepsOthers A W
  only : Only (fun j => b ≤ j) A W
  blk : ∀ (j : Nat) (c : Array Value) (t : TypeId), A.heap[j]? = some (.cells c t (0, 0)) → t ≠ e → W.heap[j]? = some (.cells c t (0, 0))
theorem Stays.row {e b : Nat} {A W : World} (h : Stays e b A W) {e2 k base size : Nat} {v : Value} {ys : List Value} (hr : A.ownsRow base e2 size v k ys) (hne : e2 ≠ e) : W.ownsRow base e2 size v k ys :=
  ⟨hr.1, hr.2.imp id fun ⟨g, cap, cur, hv, hb', hg, r⟩ => ⟨g, cap, cur, hv, hb', h.blk g cur e2 hg hne, r⟩⟩
theorem app_step {A W1 : World} {b e k : Nat} {v : Value} {xs : List Value} {tmp : Obj} (hrow : A.ownsRow b e 1 v k xs) (hsz : b ≤ A.heap.size) (hgrow : (A.alloc tmp).grownBy W1 v.ownBlock) : Stays e b A W1 := by
  have hb : ∀ k, v.ownBlock = some k → b ≤ k ∧ ∃ c, A.heap[k]? = some (.cells c e (0, 0)) := fun g hg => ⟨(hrow.lt g hg).1, own_blk hrow hg⟩
  refine ⟨(KeepsOthers.alloc A tmp).trans (KeepsOthers.of_grownBy hgrow fun j o ej hj => ?_), ?_, fun j c t hj ht => ?_⟩
  · obtain ⟨_, c, hc⟩ := hb j ej
    rw [heap_alloc_old _ _ (Array.getElem?_eq_some_iff.1 hc).1, hc] at hj
    cases hj; rfl
  · refine (Only.of_below (S := fun j => b ≤ j) (below_alloc (Below.refl _ A) tmp)).trans (T := fun j => b ≤ j) ⟨hgrow.os, hgrow.tape, hgrow.output, hgrow.size, fun k hk hn => hgrow.block k hk (fun e' => hn (hb k e'.symm).1)⟩ (fun _ _ h => h)
  · have hlt := (Array.getElem?_eq_some_iff.1 hj).1
    rw [hgrow.block j (by simp; omega) (fun e' => by
      obtain ⟨_, d, hd⟩ := hb j e'.symm
      exact blocks_ne hj hd ht rfl), heap_alloc_old _ _ hlt, hj]
theorem set_row {W : World} {a : Addr} {u : Value} {c : Array Value} {t e base size k : Nat} {v : Value} {ys : List Value} (hr : W.ownsRow base e size v k ys) (ha : W.heap[a.block]? = some (.cells c t (0, 0))) (hne : t ≠ e) : (W.setCell a u).ownsRow base e size v k ys :=
  ⟨hr.1, hr.2.imp id fun ⟨g, cap, cur, hv, hb', hg, r⟩ => ⟨g, cap, cur, hv, hb', (blk_setCell_other _ _ _ _ (blocks_ne hg ha (Ne.symm hne))).trans hg, r⟩⟩
set_option maxRecDepth 100000 in
set_option maxHeartbeats 4000000 in
theorem through_calls (A : Option Addr) (c : Nat) (L : List Nat) (w : World) (hr : RdB w A L) (hb : Bytes L) (hl : L.length ≤ 1099511627776) :
    Calls Try.prog 9 #[.slice A L.length c] w fun e w' => Below w.heap.size w w' ∧ ∃ (v1 v2 : Value) (xs : List (Nat × Nat × Nat)), e = .returned (.agg #[v1, v2]) ∧ xs.map frameOf = upto (frameAt L) (cnt L) ∧ w'.ownsRow w.heap.size 3 1 v1 xs.length (xs.map placeV) ∧ w'.ownsRow w.heap.size 25 1 v2 xs.length (xs.map bodyV) ∧
      (∀ x, x ∈ xs → w'.heap[x.2.2]? = some (.cells (bytesV (bodyAt L x.1 x.2.1)).toArray 5 (0, 0))) := by
  have HR := Lib.hid hr
  clear hr
  refine (callsIn_wide (n := 5)).1 ?_
  refine callsIn_of_wp_marks Try.func9 rfl trivial ?_ rfl
  simp only [Try.ntmps9, List.size_toArray, List.length_cons, List.length_nil, Nat.reduceAdd, Nat.reduceSub, Array.replicate_succ, Array.replicate_zero, List.push_toArray, List.append_toArray, List.nil_append, List.cons_append]
  have B0 : Below w.heap.size w ((w.alloc (.cells #[.slice none 0 0, .slice none 0 0] 30)).alloc (.cells #[.slice none 0 0, .slice none 0 0] 30)) := below_alloc (below_alloc (Below.refl _ w) _) _
  have N0 : ((w.alloc (.cells #[.slice none 0 0, .slice none 0 0] 30)).alloc (.cells #[.slice none 0 0, .slice none 0 0] 30)).heap[w.heap.size]? = some (.cells #[.slice none 0 0, .slice none 0 0] 30 (0, 0)) := by
    rw [heap_alloc_old _ _ (by simp)]; exact heap_alloc_new w _
  have N1 : ((w.alloc (.cells #[.slice none 0 0, .slice none 0 0] 30)).alloc (.cells #[.slice none 0 0, .slice none 0 0] 30)).heap[w.heap.size + 1]? = some (.cells #[.slice none 0 0, .slice none 0 0] 30 (0, 0)) := by
    have := heap_alloc_new (w.alloc (.cells #[.slice none 0 0, .slice none 0 0] 30)) (.cells #[.slice none 0 0, .slice none 0 0] 30)
    rwa [World.size_alloc] at this
  have S0 : ((w.alloc (.cells #[.slice none 0 0, .slice none 0 0] 30)).alloc (.cells #[.slice none 0 0, .slice none 0 0] 30)).heap.size = w.heap.size + 2 := by simp
  have KA := all_calls A c L _ (HR.out.below B0) hl
  have H0 := Lib.hid (And.intro B0 (And.intro N0 (And.intro N1 S0)))
  have KA0 := Lib.hid KA
  clear B0 N0 N1 S0 KA
  gi_wp2_with fail
  refine ⟨trivial, (callsIn_wide.2 KA0.out).mono ?_⟩
  rintro e w1 ⟨rfl, hb1, hg1, hB1⟩
  rw [H0.out.2.2.2] at hb1 hg1 hB1 ⊢
  have n0 : w1.heap[w.heap.size]? = some (.cells #[.slice none 0 0, .slice none 0 0] 30 (0, 0)) := (hB1.block _ (by omega)).trans H0.out.2.1
  have n1 : w1.heap[w.heap.size + 1]? = some (.cells #[.slice none 0 0, .slice none 0 0] 30 (0, 0)) := (hB1.block _ (by omega)).trans H0.out.2.2.1
  have bw1 : Below w.heap.size w w1 := H0.out.1.trans (hB1.mono (by omega))
  have sw1 : w.heap.size + 4 ≤ w1.heap.size := by have := (Array.getElem?_eq_some_iff.1 hg1).1; omega
  have i0 : SeenI w (w1.heap.size + 2 + 4) L [] w1 := ⟨.slice none 0 0, .slice none 0 0, n1, World.ownsRow_nil _ _ _ _, World.ownsRow_nil _ _ _ _, ⟨fun x hx => (List.not_mem_nil hx).elim, n0, bw1⟩⟩
  have H1 := Lib.hid (And.intro i0 (And.intro hb1 (And.intro hg1 sw1)))
  clear n0 n1 bw1 sw1 i0 hb1 hg1 hB1 KA0 H0
  gi_wp2_with fail
  rename_i K aK
  have HX := Lib.hid aK
  clear aK
  have hb1 := H1.out.2.1
  have hg1 := H1.out.2.2.1
  have sw1 := H1.out.2.2.2
  refine range_only rfl (by decide) (gf := 22) (lb := #[.pointer (some ⟨w.heap.size + 2, 0, none⟩)]) rfl trivial (enters_of Try.func22 (by kernel_rfl) rfl)
    (all_gives _ (by decide) (w.heap.size + 2) (w.heap.size + 2 + 1) L w1 hb hl hb1 hg1) (Below.refl _ _) (fun _ => rfl) (fun k hk => by rcases hk with rfl | rfl <;> omega)
    (fun k => k = w.heap.size + 1) (fun k hk => ⟨fun z => by rcases z with h | h <;> omega, by omega⟩) (TA_own L)
    (SeenI w (w1.heap.size + 2 + 4) L) (seen_own w _ L _ (by omega)) (fun s A C h ho => seen_only w (w1.heap.size + 2) 4 L (by omega) s A C h ho) H1.out.1 ?ex ?done
  case ex =>
    apply Exists.intro
    refine ⟨?assign, ?body⟩
    case assign =>
      intro l' x W2 K hK
      simp only [encA]
      gi_wp2
      exact hK
    case body =>
      rintro l' pre ⟨p, m, g⟩ A ⟨v1, v2, h1, h2, h3, h4, h5, h6⟩ hlen hTx hsA
      obtain ⟨i3, hi3, hz30, hz31, hz32⟩ := info_parts infoI
      obtain ⟨i4, hi4, hz40, hz41, hz42⟩ := info_parts infoS
      have HI3 := Lib.hid (And.intro hi3 (And.intro hz30 (And.intro hz31 hz32)))
      have HI4 := Lib.hid (And.intro hi4 (And.intro hz40 (And.intro hz41 hz42)))
      have hcl := cnt_le L
      have x0 : A.cell? ⟨w.heap.size + 1, 0, none⟩ = some v1 := (cell_of_row A _ 0 _ _ _ h1).trans rfl
      have H := Lib.hid (And.intro h1 (And.intro h2 (And.intro h3 (And.intro h4 (And.intro h5 h6)))))
      have HT := Lib.hid hTx
      clear h1 h2 h3 h4 h5 h6 hi3 hz30 hz31 hz32 hi4 hz40 hz41 hz42 hTx
      gi_wp2_with (first
        | (gi_at_builtin
           rename_i K1 aK1
           have HX1 := Lib.hid aK1
           clear aK1
           refine wpListIn_append_own _ rfl (.tmp 16) (.tmp 18) 26 rfl (w1.heap.size + 2 + 4) 3 i3 (.int .i64 0) 1 8 Try.underlying26 HI3.out.1 HI3.out.2.1 HI3.out.2.2.1 HI3.out.2.2.2 rfl (by decide) v1 pre.length (pre.map placeV) rfl (H.out.2.1.alloc _) ⟨A.heap.size, 0, none⟩ 1 1 [placeV (p, m, g)] rfl rfl (cell_one_new _ _ _) (by simp [Value.oneCell', placeV]) (by unfold maxLen; omega) (by omega) (by simp; omega) ?_
           intro v1' W1 hown1 hgrow1 _
           obtain ⟨g1, c1, rfl⟩ := ownsRow_succ hown1
           have st1 := app_step H.out.2.1 hsA hgrow1
           have b1 := st1.blk _ _ _ H.out.1 (by decide)
           have z1 := frozen_of_row W1 (w.heap.size + 1) 0 _ _ b1
           have c0 : W1.cell? ⟨w.heap.size + 1, 0, none⟩ = some v1 := (cell_of_row W1 (w.heap.size + 1) 0 _ _ _ b1).trans rfl
           have x1 : (W1.setCell ⟨w.heap.size + 1, 0, none⟩ (.slice (some ⟨g1, 0, none⟩) (pre.length + 1) c1)).cell? ⟨w.heap.size + 1, 1, none⟩ = some v2 := by
             rw [cell_of_row _ _ _ _ _ _ (heap_setCell_same W1 _ 0 _ _ _ b1)]; rfl
           have H1' := Lib.hid (And.intro hown1 (And.intro st1 b1))
           clear hown1 hgrow1 st1 b1))
      refine HX1.out _ _ ?_
      clear HX1 x0 z1 c0
      have sz1 : w1.heap.size + 2 + 4 ≤ W1.heap.size := Nat.le_trans hsA H1'.out.2.1.others.size
      have r2 := (set_row (a := ⟨w.heap.size + 1, 0, none⟩) (u := .slice (some ⟨g1, 0, none⟩) (pre.length + 1) c1) (H1'.out.2.1.row H.out.2.2.1 (by decide)) H1'.out.2.2 (by decide))
      have r1 := (set_row (a := ⟨w.heap.size + 1, 0, none⟩) (u := .slice (some ⟨g1, 0, none⟩) (pre.length + 1) c1) H1'.out.1 H1'.out.2.2 (by decide))
      have b2 := heap_setCell_same W1 (w.heap.size + 1) 0 _ _ (.slice (some ⟨g1, 0, none⟩) (pre.length + 1) c1) H1'.out.2.2
      obtain ⟨W2, hW2⟩ : ∃ V, W1.setCell ⟨w.heap.size + 1, 0, none⟩ (.slice (some ⟨g1, 0, none⟩) (pre.length + 1) c1) = V := ⟨_, rfl⟩
      have s2 : W1.heap.size ≤ W2.heap.size := by rw [← hW2]; simp [World.setCell]
      rw [hW2] at x1 r1 r2 b2 ⊢
      have H2 := Lib.hid (And.intro hW2 (And.intro r1 (And.intro r2 b2)))
      clear hW2 r1 r2 b2
      gi_wp2_with (gi_at_builtin; refine wpListIn_append_own _ rfl (.tmp 22) (.tmp 24) 22 rfl (w1.heap.size + 2 + 4) 25 i4 (.slice none 0 0) 1 24 Try.underlying22 HI4.out.1 HI4.out.2.1 HI4.out.2.2.1 HI4.out.2.2.2 rfl (by decide) v2 pre.length (pre.map bodyV) rfl (H2.out.2.2.1.alloc _) ⟨W2.heap.size, 0, none⟩ 1 1 [bodyV (p, m, g)] rfl rfl (cell_one_new _ _ _) (by simp [Value.oneCell', bodyV]) (by unfold maxLen; omega) (by omega) (by simp; omega) ?_; intro v2' W3 hown3 hgrow3 _; obtain ⟨g2, c2, rfl⟩ := ownsRow_succ hown3; have st3 := app_step H2.out.2.2.1 (by omega) hgrow3; have b3 := st3.blk _ _ _ H2.out.2.2.2 (by decide); have z3 := frozen_of_row W3 (w.heap.size + 1) 1 _ _ b3; have c3 : W3.cell? ⟨w.heap.size + 1, 1, none⟩ = some v2 := (cell_of_row W3 (w.heap.size + 1) 1 _ _ _ b3).trans rfl; have H3' := Lib.hid (And.intro hown3 (And.intro st3 b3)); clear hown3 hgrow3 st3 b3)
      have ev : (#[v1, v2].setIfInBounds 0 (.slice (some ⟨g1, 0, none⟩) (pre.length + 1) c1)).setIfInBounds 1 (.slice (some ⟨g2, 0, none⟩) (pre.length + 1) c2) = #[.slice (some ⟨g1, 0, none⟩) (pre.length + 1) c1, .slice (some ⟨g2, 0, none⟩) (pre.length + 1) c2] := rfl
      have b4 := heap_setCell_same W3 (w.heap.size + 1) 1 _ _ (.slice (some ⟨g2, 0, none⟩) (pre.length + 1) c2) H3'.out.2.2
      rw [ev] at b4
      have q1 := set_row (a := ⟨w.heap.size + 1, 1, none⟩) (u := .slice (some ⟨g2, 0, none⟩) (pre.length + 1) c2) (H3'.out.2.1.row H2.out.2.1 (by decide)) H3'.out.2.2 (by decide)
      have q2 := set_row (a := ⟨w.heap.size + 1, 1, none⟩) (u := .slice (some ⟨g2, 0, none⟩) (pre.length + 1) c2) H3'.out.1 H3'.out.2.2 (by decide)
      have qb : ∀ (j : Nat) (c : Array Value) (t : TypeId), A.heap[j]? = some (.cells c t (0, 0)) → t ≠ 3 → t ≠ 25 → j ≠ w.heap.size + 1 → (W3.setCell ⟨w.heap.size + 1, 1, none⟩ (.slice (some ⟨g2, 0, none⟩) (pre.length + 1) c2)).heap[j]? = some (.cells c t (0, 0)) := fun j c t hj n3 n25 ns => by
        have e1 := H1'.out.2.1.blk j c t hj n3
        have e2 : W2.heap[j]? = some (.cells c t (0, 0)) := by rw [← H2.out.1, blk_setCell_other _ _ _ _ ns]; exact e1
        rw [blk_setCell_other _ _ _ _ ns]
        exact H3'.out.2.1.blk j c t e2 n25
      have o1 : Only (fun k => k = w.heap.size + 1 ∨ w1.heap.size + 2 + 4 ≤ k) A W2 := by
        rw [← H2.out.1]
        exact (H1'.out.2.1.only.mono (fun k _ h => .inr h)).setCell (p := ⟨w.heap.size + 1, 0, none⟩) (.inl (.inl rfl)) _
      have o2 : Only (fun k => k = w.heap.size + 1 ∨ w1.heap.size + 2 + 4 ≤ k) A (W3.setCell ⟨w.heap.size + 1, 1, none⟩ (.slice (some ⟨g2, 0, none⟩) (pre.length + 1) c2)) :=
        (o1.trans (H3'.out.2.1.only) (fun k _ h => .inr h)).setCell (p := ⟨w.heap.size + 1, 1, none⟩) (.inl (.inl rfl)) _
      have k1 : KeepsOthers A W2 := by rw [← H2.out.1]; exact H1'.out.2.1.others.trans (KeepsOthers.setCell _ _ _)
      refine ⟨((k1.trans H3'.out.2.1.others).trans (KeepsOthers.setCell _ _ _)).from _, o2, _, _, b4, by simpa using q1, by simpa using q2, fun x hx => ?_, qb _ _ _ H.out.2.2.2.2.1 (by decide) (by decide) (by omega), o2.from H.out.2.2.2.2.2 (fun k hk => by omega)⟩
      rw [List.mem_append, List.mem_singleton] at hx
      rcases hx with hx | rfl
      · exact ⟨(H.out.2.2.2.1 x hx).1, qb _ _ _ (H.out.2.2.2.1 x hx).2 (by decide) (by decide) (by have := (H.out.2.2.2.1 x hx).1; omega)⟩
      · exact ⟨HT.out.1, qb _ _ _ HT.out.2.2 (by decide) (by decide) (by have h9 : w1.heap.size + 2 + 4 ≤ g := HT.out.1; show g ≠ w.heap.size + 1; omega)⟩
  case done =>
    rintro xs A hd ⟨v1, v2, h1, h2, h3, h4, h5, h6⟩ hD
    obtain ⟨a1, n1, c1, rfl⟩ := own_slice h2
    obtain ⟨a2, n2, c2, rfl⟩ := own_slice h3
    have x0 : A.cell? ⟨w.heap.size + 1, 0, none⟩ = some (.slice a1 n1 c1) := (cell_of_row A _ 0 _ _ _ h1).trans rfl
    have x1 : A.cell? ⟨w.heap.size + 1, 1, none⟩ = some (.slice a2 n2 c2) := (cell_of_row A _ 1 _ _ _ h1).trans rfl
    have y0 : A.cell? ⟨w.heap.size, 0, none⟩ = some (.slice none 0 0) := (cell_of_row A w.heap.size 0 _ _ _ h5).trans rfl
    have y1 : A.cell? ⟨w.heap.size, 1, none⟩ = some (.slice none 0 0) := (cell_of_row A w.heap.size 1 _ _ _ h5).trans rfl
    have z0 := frozen_of_row A w.heap.size 0 _ _ h5
    have z1 := frozen_of_row A w.heap.size 1 _ _ h5
    have H := Lib.hid (And.intro h1 (And.intro h2 (And.intro h3 (And.intro h4 (And.intro h5 h6)))))
    clear h1 h2 h3 h4 h5 h6
    refine HX.out _ _ ?_
    gi_wp2
    have ne : w1.heap.size ≠ w.heap.size := by omega
    have b0 := heap_setCell_same A w.heap.size 0 _ _ (.slice a1 n1 c1) H.out.2.2.2.2.1
    have b1 := heap_setCell_same _ w.heap.size 1 _ _ (.slice a2 n2 c2) b0
    have hD1 : ((A.setCell ⟨w.heap.size, 0, none⟩ (.slice a1 n1 c1)).setCell ⟨w.heap.size, 1, none⟩ (.slice a2 n2 c2)).heap[w1.heap.size]? = some (.deferred (some [])) := by
      rw [blk_setCell_other _ _ _ _ ne, blk_setCell_other _ _ _ _ ne]; exact hD
    refine ⟨by simp, .inl ⟨_, _, rfl, run_takeDeferred hD1, ?_⟩⟩
    have r1 := own_base (set_row (a := ⟨w.heap.size, 1, none⟩) (u := .slice a2 n2 c2) (set_row (a := ⟨w.heap.size, 0, none⟩) (u := .slice a1 n1 c1) H.out.2.1 H.out.2.2.2.2.1 (by decide)) b0 (by decide)) (b := w.heap.size) (by omega)
    have r2 := own_base (set_row (a := ⟨w.heap.size, 1, none⟩) (u := .slice a2 n2 c2) (set_row (a := ⟨w.heap.size, 0, none⟩) (u := .slice a1 n1 c1) H.out.2.2.1 H.out.2.2.2.2.1 (by decide)) b0 (by decide)) (b := w.heap.size) (by omega)
    refine ⟨_, results_cell_row rfl _ _ w.heap.size 30 #[.slice a1 n1 c1, .slice a2 n2 c2] (0, 0) _ rfl ((World.putObj_heap_other (Ne.symm ne)).trans b1) Try.underlying30 rfl (by kernel_rfl), ?_, _, _, xs, rfl, hd, ownsRow_putObj r1 _ hD1 rfl, ownsRow_putObj r2 _ hD1 rfl, fun x hx => ?_⟩
    · exact ((H.out.2.2.2.2.2.setCell (p := ⟨w.heap.size, 0, none⟩) (Nat.le_refl _) _).setCell (p := ⟨w.heap.size, 1, none⟩) (Nat.le_refl _) _).trans (belowK_b (w := w) (Nat.le_refl _) _ w1.heap.size _ _ (by omega) hD1 rfl rfl)
    · have hb := (H.out.2.2.2.1 x hx).1
      rw [World.putObj_heap_other (by omega), blk_setCell_other _ _ _ _ (by show x.2.2 ≠ w.heap.size; omega), blk_setCell_other _ _ _ _ (by show x.2.2 ≠ w.heap.size; omega)]
      exact (H.out.2.2.2.1 x hx).2
end Go.Proofs.Ytbcijdgpaglbnaa.Q
