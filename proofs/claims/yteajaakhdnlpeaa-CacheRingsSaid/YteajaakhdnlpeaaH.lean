import Derived.Test.YteajaakhdnlpeaaD
import Derived.RangeFuncBox
import Derived.Deep.RegionLaw
namespace Go.Proofs.Yteajaakhdnlpeaa.Q
open Go.RowKit Go.Proofs.YteajaakhdnlpeaaW.PrintWords Go.Deep
set_option linter.unusedVariables false
set_option linter.unusedSimpArgs false

/-! TWO RINGS AND THE DOCUMENT'S TWO LISTS, side by side -/
def upd {α : Type} (f : Nat → α) (k : Nat) (v : α) : Nat → α := fun i => if i = k then v else f i
theorem upd_same {α : Type} (f : Nat → α) (k : Nat) (v : α) : upd f k v k = v := by simp [upd]
theorem upd_ne {α : Type} (f : Nat → α) {k i : Nat} (v : α) (h : i ≠ k) : upd f k v i = f i := by simp [upd, h]
def fin (m : Int) : Bool := decide (0 ≤ m) && decide (m ≤ 64)
theorem fin_iff (m : Int) : fin m = true ↔ 0 ≤ m ∧ m ≤ 64 := by simp [fin]

theorem blocks_ne {W : World} {a b : Nat} {c d : Array Value} {t u : TypeId} {f g : Nat × Nat} (ha : W.heap[a]? = some (.cells c t f)) (hb : W.heap[b]? = some (.cells d u g)) (ht : t ≠ u) : a ≠ b := fun e => by
  subst e; rw [ha] at hb; injection hb with hb; injection hb with _ h2; exact ht h2
theorem RingI.blk {T : TypeId} {w : World} {b most : Nat} {xs : List Value} (h : RingI T w b most xs) : ∃ c, w.heap[b]? = some (.cells c T (0, 0)) := by
  obtain ⟨f, P, ⟨c, hb, _⟩, _⟩ := h; exact ⟨c, hb⟩
theorem own_blk {W : World} {base e size n : Nat} {v : Value} {xs : List Value} (h : W.ownsRow base e size v n xs) {g : Nat} (hg : v.ownBlock = some g) : ∃ c, W.heap[g]? = some (.cells c e (0, 0)) := by
  rcases h.2 with ⟨rfl, _⟩ | ⟨g', cap, cur, rfl, _, hgg, _⟩
  · simp [Value.ownBlock] at hg
  · simp [Value.ownBlock] at hg; subst hg; exact ⟨cur, hgg⟩
theorem own_keep {W W' : World} {base e size n : Nat} {v : Value} {xs : List Value} (h : W.ownsRow base e size v n xs) (hk : ∀ g, v.ownBlock = some g → W'.heap[g]? = W.heap[g]?) : W'.ownsRow base e size v n xs := by
  refine ⟨h.1, ?_⟩
  rcases h.2 with hn | ⟨g, cap, cur, rfl, hb, hgg, rest⟩
  · exact .inl hn
  · exact .inr ⟨g, cap, cur, rfl, hb, (hk g rfl).trans hgg, rest⟩
theorem own_rd {W : World} {base : Nat} {v : Value} {L : List Int} (h : W.ownsRow base 2 1 v L.length (ints L)) : ∃ A c, v = .slice A L.length c ∧ L.length ≤ c ∧ Rd W A L := by
  rcases h.2 with ⟨rfl, h0⟩ | ⟨g, cap, cur, rfl, hb, hgg, hc, hm, rest⟩
  · exact ⟨none, 0, by rw [h0], by omega, by omega, fun hp => by omega⟩
  · unfold maxLen at hm
    refine ⟨some ⟨g, 0, none⟩, cap, rfl, hc, by omega, fun hp => ⟨_, rfl, fun i hi => ?_⟩⟩
    exact h.cells (g := g) rfl i (.int .i64 (L.getD i 0)) (by simp [ints, hi, List.getD_eq_getElem?_getD])

structure CR (w W : World) (j A D M : Nat) (mo : Nat → Int) (R N : Nat → Nat) (V : Nat → Value) (L : Nat → List Int) : Prop where
  below : Below w.heap.size w W
  ra : W.rowIs A 25 2 (fun k => .pointer (if k < j ∧ fin (mo k) = true then some ⟨R k, 0, none⟩ else none))
  rd : W.rowIs D 27 2 (fun k => .pointer (if k < j then some ⟨N k, 0, none⟩ else none))
  rm : W.rowIs M 28 2 (fun k => .int .i64 (mo k))
  lo : w.heap.size ≤ A ∧ w.heap.size ≤ D
  num : ∀ k, k < j → w.heap.size ≤ N k ∧ W.heap[N k]? = some (.cells #[.int .i64 (mo k), V k] 34 (0, 0))
  ring : ∀ k, k < j → fin (mo k) = true → w.heap.size ≤ R k ∧ RingI 83 W (R k) (mo k).toNat (ints (lastN (mo k).toNat (L k)))
  own : ∀ k, k < j → W.ownsRow w.heap.size 2 1 (V k) (L k).length (ints (L k))
  apN : ∀ i k, i < j → k < j → i ≠ k → N i ≠ N k
  apR : ∀ i k, i < j → k < j → i ≠ k → fin (mo i) = true → fin (mo k) = true → R i ≠ R k
  apV : ∀ i k g, i < j → k < j → i ≠ k → (V i).ownBlock = some g → (V k).ownBlock ≠ some g
variable {w W : World} {j A D M : Nat} {mo : Nat → Int} {R N : Nat → Nat} {V : Nat → Value} {L : Nat → List Int}

theorem num_lt (h : CR w W j A D M mo R N V L) {k : Nat} (hk : k < j) : N k < W.heap.size := (Array.getElem?_eq_some_iff.1 (h.num k hk).2).1
theorem CR.to (h : CR w W j A D M mo R N V L) {W' : World} (hB : Below W.heap.size W W') : CR w W' j A D M mo R N V L :=
  ⟨below_then h.below h.below.size hB, h.ra.of_block (hB.block _ h.ra.lt), h.rd.of_block (hB.block _ h.rd.lt), h.rm.of_block (hB.block _ h.rm.lt), h.lo,
   fun k hk => ⟨(h.num k hk).1, (hB.block _ (num_lt h hk)).trans (h.num k hk).2⟩, fun k hk hf => ⟨(h.ring k hk hf).1, (h.ring k hk hf).2.below hB⟩,
   fun k hk => own_keep (h.own k hk) (fun g hg => hB.block g ((h.own k hk).lt g hg).2), h.apN, h.apR, h.apV⟩

/-- one side turns -/
theorem CR.turn (h : CR w W 2 A D M mo R N V L) {k : Nat} (hk : k < 2) (hf : fin (mo k) = true) {W' : World} {v' : Value} {l' : List Int}
    (ho : Only (fun j => j = R k ∨ j = N k ∨ (V k).ownBlock = some j) W W') (hr : RingI 83 W' (R k) (mo k).toNat (ints (lastN (mo k).toNat l'))) (hn : W'.heap[N k]? = some (.cells #[.int .i64 (mo k), v'] 34 (0, 0)))
    (hown : W'.ownsRow w.heap.size 2 1 v' l'.length (ints l')) (hfr : ∀ g, v'.ownBlock = some g → (V k).ownBlock = some g ∨ W.heap.size ≤ g) : CR w W' 2 A D M mo R N (upd V k v') (upd L k l') := by
  obtain ⟨cR, bR⟩ := (h.ring k hk hf).2.blk
  have bN := (h.num k hk).2
  have keep : ∀ (x : Nat) (c : Array Value) (t : TypeId), W.heap[x]? = some (.cells c t (0, 0)) → t ≠ 83 → t ≠ 34 → t ≠ 2 → W'.heap[x]? = W.heap[x]? := fun x c t hx t1 t2 t3 =>
    ho.block x (Array.getElem?_eq_some_iff.1 hx).1 (by
      rintro (e | e | e)
      · exact blocks_ne hx bR t1 e
      · exact blocks_ne hx bN t2 e
      · obtain ⟨c2, b2⟩ := own_blk (h.own k hk) e
        exact blocks_ne hx b2 t3 rfl)
  obtain ⟨cA, bA, _⟩ := h.ra
  obtain ⟨cD, bD, _⟩ := h.rd
  obtain ⟨cM, bM, _⟩ := h.rm
  refine ⟨?_, h.ra.of_block (keep A cA 25 bA (by decide) (by decide) (by decide)), h.rd.of_block (keep D cD 27 bD (by decide) (by decide) (by decide)), h.rm.of_block (keep M cM 28 bM (by decide) (by decide) (by decide)), h.lo, ?_, ?_, ?_, h.apN, h.apR, ?_⟩
  · exact ho.from h.below (fun x hx => by
      rcases hx with rfl | rfl | hx
      · exact (h.ring k hk hf).1
      · exact (h.num k hk).1
      · exact ((h.own k hk).lt x hx).1)
  · intro i hi
    by_cases e : i = k
    · subst e; rw [upd_same]; exact ⟨(h.num i hi).1, hn⟩
    · rw [upd_ne _ _ e]
      refine ⟨(h.num i hi).1, (ho.block _ (num_lt h hi) ?_).trans (h.num i hi).2⟩
      rintro (e2 | e2 | e2)
      · exact blocks_ne (h.num i hi).2 bR (by decide) e2
      · exact h.apN i k hi hk e e2
      · obtain ⟨c2, b2⟩ := own_blk (h.own k hk) e2
        exact blocks_ne (h.num i hi).2 b2 (by decide) rfl
  · intro i hi hfi
    by_cases e : i = k
    · subst e; rw [upd_same]; exact ⟨(h.ring i hi hfi).1, hr⟩
    · rw [upd_ne _ _ e]
      obtain ⟨ci, bi⟩ := (h.ring i hi hfi).2.blk
      refine ⟨(h.ring i hi hfi).1, (h.ring i hi hfi).2.only ho ?_⟩
      rintro (e2 | e2 | e2)
      · exact h.apR i k hi hk e hfi hf e2
      · exact blocks_ne bi bN (by decide) e2
      · obtain ⟨c2, b2⟩ := own_blk (h.own k hk) e2
        exact blocks_ne bi b2 (by decide) rfl
  · intro i hi
    by_cases e : i = k
    · subst e; rw [upd_same, upd_same]; exact hown
    · rw [upd_ne _ _ e, upd_ne _ _ e]
      refine own_keep (h.own i hi) (fun g hg => ho.block g ((h.own i hi).lt g hg).2 ?_)
      obtain ⟨ci, bi⟩ := own_blk (h.own i hi) hg
      rintro (e2 | e2 | e2)
      · exact blocks_ne bi bR (by decide) e2
      · exact blocks_ne bi bN (by decide) e2
      · exact h.apV i k g hi hk e hg e2
  · intro a b g ha hb e hg
    by_cases e1 : a = k
    · subst e1
      rw [upd_same] at hg
      rw [upd_ne _ _ (Ne.symm e)]
      rcases hfr g hg with h1 | h1
      · exact h.apV a b g ha hb e h1
      · exact fun h2 => by have := ((h.own b hb).lt g h2).2; omega
    · rw [upd_ne _ _ e1] at hg
      by_cases e2 : b = k
      · subst e2
        rw [upd_same]
        intro h2
        rcases hfr g h2 with h1 | h1
        · exact h.apV a b g ha hb e hg h1
        · have := ((h.own a ha).lt g hg).2; omega
      · rw [upd_ne _ _ e2]
        exact h.apV a b g ha hb e hg

/-- one side is made -/
theorem CR.add (h : CR w W j A D M mo R N (fun _ => .slice none 0 0) (fun _ => [])) (hj : j < 2) {W1 : World} (hB : Below W.heap.size W W1) (hr : fin (mo j) = true → RingI 83 W1 W.heap.size (mo j).toNat []) :
    CR w (((W1.setCell ⟨A, j, none⟩ (.pointer (if fin (mo j) = true then some ⟨W.heap.size, 0, none⟩ else none))).alloc (.cells #[.int .i64 (mo j), .slice none 0 0] 34)).setCell ⟨D, j, none⟩ (.pointer (some ⟨W1.heap.size, 0, none⟩))) (j + 1) A D M mo (upd R j W.heap.size) (upd N j W1.heap.size) (fun _ => .slice none 0 0) (fun _ => []) := by
  have h1 := h.to hB
  obtain ⟨cA, bA, _⟩ := h1.ra
  obtain ⟨cD, bD, _⟩ := h1.rd
  obtain ⟨cM, bM, _⟩ := h1.rm
  have AD : A ≠ D := blocks_ne bA bD (by decide)
  have MA : M ≠ A := blocks_ne bM bA (by decide)
  have MD : M ≠ D := blocks_ne bM bD (by decide)
  have sz : (W1.setCell ⟨A, j, none⟩ (.pointer (if fin (mo j) = true then some ⟨W.heap.size, 0, none⟩ else none))).heap.size = W1.heap.size := by simp [World.setCell]
  obtain ⟨p, hp⟩ : ∃ p, Value.pointer (if fin (mo j) = true then some ⟨W.heap.size, 0, none⟩ else none) = p := ⟨_, rfl⟩
  rw [hp] at sz ⊢
  obtain ⟨W4, hW4⟩ : ∃ W4, ((W1.setCell ⟨A, j, none⟩ p).alloc (.cells #[.int .i64 (mo j), .slice none 0 0] 34)).setCell ⟨D, j, none⟩ (.pointer (some ⟨W1.heap.size, 0, none⟩)) = W4 := ⟨_, rfl⟩
  have keep : ∀ x, x < W1.heap.size → x ≠ A → x ≠ D → W4.heap[x]? = W1.heap[x]? := fun x hx e1 e2 => by
    rw [← hW4, blk_setCell_other _ _ _ _ e2, heap_alloc_old _ _ (by rw [sz]; exact hx), blk_setCell_other _ _ _ _ e1]
  have new : W4.heap[W1.heap.size]? = some (.cells #[.int .i64 (mo j), .slice none 0 0] 34 (0, 0)) := by
    have hDl := h1.rd.lt
    rw [← hW4, blk_setCell_other _ _ _ _ (show W1.heap.size ≠ D by omega)]
    have := heap_alloc_new (W1.setCell ⟨A, j, none⟩ p) (.cells #[.int .i64 (mo j), .slice none 0 0] 34)
    rwa [sz] at this
  have hlt : ∀ k, k < j → N k < W1.heap.size := fun k hk => num_lt h1 hk
  have ww : W.heap.size ≤ W1.heap.size := hB.size
  rw [hW4]
  refine ⟨?_, ?_, ?_, h1.rm.of_block (keep M h1.rm.lt MA MD), h.lo, ?_, ?_, ?_, ?_, ?_, ?_⟩
  · rw [← hW4]
    exact ((below_alloc (h1.below.setCell (p := ⟨A, j, none⟩) h.lo.1 p) _).setCell (p := ⟨D, j, none⟩) h.lo.2 _)
  · have q := ((h1.ra.set j p).alloc (.cells #[.int .i64 (mo j), .slice none 0 0] 34)).setOther (a := ⟨D, j, none⟩) AD (.pointer (some ⟨W1.heap.size, 0, none⟩))
    rw [hW4] at q
    refine q.congr (fun i hi => ?_)
    by_cases e : i = j
    · subst e; rw [if_pos rfl, ← hp, upd_same]; simp
    · rw [if_neg e, upd_ne _ _ e]
      have : (i < j + 1) = (i < j) := by simp; omega
      simp only [this]
  · have q := (((h1.rd.setOther (a := ⟨A, j, none⟩) (Ne.symm AD) p).alloc (.cells #[.int .i64 (mo j), .slice none 0 0] 34)).set j (.pointer (some ⟨W1.heap.size, 0, none⟩)))
    rw [hW4] at q
    refine q.congr (fun i hi => ?_)
    by_cases e : i = j
    · subst e; rw [if_pos rfl, upd_same, if_pos (by omega)]
    · rw [if_neg e, upd_ne _ _ e]
      have : (i < j + 1) = (i < j) := by simp; omega
      simp only [this]
  · intro k hk
    by_cases e : k = j
    · subst e; rw [upd_same]; exact ⟨Nat.le_trans h.below.size ww, new⟩
    · rw [upd_ne _ _ e]
      have hk2 : k < j := by omega
      have b := (h1.num k hk2).2
      exact ⟨(h.num k hk2).1, (keep _ (hlt k hk2) (blocks_ne b bA (by decide)) (blocks_ne b bD (by decide))).trans b⟩
  · intro k hk hf
    by_cases e : k = j
    · subst e; rw [upd_same]
      obtain ⟨c, b⟩ := (hr hf).blk
      exact ⟨h.below.size, by simpa [lastN, ints] using (hr hf).keep (keep _ (hr hf).lt (blocks_ne b bA (by decide)) (blocks_ne b bD (by decide)))⟩
    · rw [upd_ne _ _ e]
      have hk2 : k < j := by omega
      obtain ⟨c, b⟩ := (h1.ring k hk2 hf).2.blk
      exact ⟨(h.ring k hk2 hf).1, (h1.ring k hk2 hf).2.keep (keep _ (h1.ring k hk2 hf).2.lt (blocks_ne b bA (by decide)) (blocks_ne b bD (by decide)))⟩
  · intro k hk
    exact World.ownsRow_nil _ _ _ _
  · intro a b ha hb e
    by_cases e1 : a = j
    · subst e1; rw [upd_same, upd_ne _ _ (Ne.symm e)]; have := hlt b (by omega); omega
    · rw [upd_ne _ _ e1]
      by_cases e2 : b = j
      · subst e2; rw [upd_same]; have := hlt a (by omega); omega
      · rw [upd_ne _ _ e2]; exact h.apN a b (by omega) (by omega) e
  · intro a b ha hb e fa fb
    by_cases e1 : a = j
    · subst e1; rw [upd_same, upd_ne _ _ (Ne.symm e)]; have := (h.ring b (by omega) fb).2.lt; omega
    · rw [upd_ne _ _ e1]
      by_cases e2 : b = j
      · subst e2; rw [upd_same]; have := (h.ring a (by omega) fa).2.lt; omega
      · rw [upd_ne _ _ e2]; exact h.apR a b (by omega) (by omega) e fa fb
  · intro a b g _ _ _ hg
    simp [Value.ownBlock] at hg

theorem bit_and (a : Int) : ∃ k : Nat, k < 2 ∧ bits .and .i64 a 1 = k := by
  have h : (BitVec.ofInt 64 a &&& BitVec.ofInt 64 1).toNat ≤ 1 := by
    rw [BitVec.toNat_and]; exact Nat.and_le_right
  have e : bits .and .i64 a 1 = IntKind.i64.wrap ((BitVec.ofInt 64 a &&& BitVec.ofInt 64 1).toNat : Int) := rfl
  rw [e]
  generalize (BitVec.ofInt 64 a &&& BitVec.ofInt 64 1).toNat = x at h
  have : x = 0 ∨ x = 1 := by omega
  rcases this with rfl | rfl
  · exact ⟨0, by omega, by decide⟩
  · exact ⟨1, by omega, by decide⟩
end Go.Proofs.Yteajaakhdnlpeaa.Q
