import Derived.Test.YtkmpbnicofiehaaC
namespace Go.Proofs.Ytkmpbnicofiehaa.Q
open Go.RowKit Go.Proofs.YtkmpbnicofiehaaW.PrintWords Go.Deep Go.Maps Go.WideShapes
set_option linter.unusedVariables false
set_option linter.unusedSimpArgs false
attribute [local go_sem] Oper.semAt_some

/-! A TICK -/
def ints (xs : List Int) : List Value := xs.map (Value.int .i64)
def mkLife (p : Int × Int) : Value := .agg #[.int .i32 p.1, .int .i64 p.2]
theorem inv_life (v : Value) (y : DataW Unit × List MemPlace) (h : lifeR v = some y) : ∃ p, v = mkLife p := by
  obtain ⟨t, d, hv, _⟩ := lifeR_inv h
  exact ⟨(t, d), hv⟩
theorem inv_key (key : Value) (kl : Lit) (h : keyOf Try.prog 2 key = some kl) : ∃ x, key = Value.int .i64 x := by
  obtain ⟨x, hx, _⟩ := Maps.keyOf_int_inv Try.underlying2 h
  exact ⟨x, hx⟩
theorem look_at {D : DataW Unit} {x t d : Int} (h : ∀ zd, D.atKey (.int .i64 x) zd = lifeD t d) : look D x = some (t, d) := by
  unfold look
  rw [has_true_of_atKey h, if_pos rfl, h]
  rfl
theorem Clk.ticked {c b s n : Nat} {now span : Int} {D : DataW Unit} {w : World} (h : Clk c b s now span n D w) (now' : Int) : Clk c b s now' span n D (w.setCell ⟨c, 0, none⟩ (.int .i64 now')) := by
  have n1 : c ≠ b := fun e => by
    subst e
    obtain ⟨es, clock, hb, _⟩ := h.map
    have := h.cells; rw [hb] at this; cases this
  have n2 : s ≠ c := fun e => by subst e; have := h.box; rw [h.cells] at this; cases this
  refine ⟨heap_setCell_same w c 0 _ _ _ h.cells, (Below.heap_setCell _ _ _ _ n2).trans h.box, h.map.setCell (fun e => n1 e.symm) _⟩
theorem own_sliceN {W : World} {base e size n : Nat} {v : Value} {xs : List Value} (h : W.ownsRow base e size v n xs) : ∃ a c, v = .slice a n c ∧ n ≤ c := by
  rcases h.2 with ⟨rfl, rfl⟩ | ⟨g, cap, cur, rfl, _, _, h, _⟩
  · exact ⟨_, _, rfl, Nat.le_refl _⟩
  · exact ⟨_, _, rfl, h⟩
theorem own_blkN {W : World} {base e size n : Nat} {v : Value} {xs : List Value} (h : W.ownsRow base e size v n xs) {g : Nat} (hg : v.ownBlock = some g) : base ≤ g ∧ ∃ c, W.heap[g]? = some (.cells c e (0, 0)) := by
  rcases h.2 with ⟨rfl, _⟩ | ⟨k, cap, cur, rfl, hb, hh, _⟩
  · simp [Value.ownBlock] at hg
  · have : k = g := by simpa [Value.ownBlock] using hg
    subst this; exact ⟨hb, cur, hh⟩
theorem app_only {A W1 : World} {b e k : Nat} {v : Value} {xs : List Value} {tmp : Obj} (hrow : A.ownsRow b e 1 v k xs) (hsz : b ≤ A.heap.size) (hgrow : (A.alloc tmp).grownBy W1 v.ownBlock) : Only (fun j => b ≤ j) A W1 :=
  (Only.of_below (S := fun j => b ≤ j) (below_alloc (Below.refl _ A) tmp)).trans (T := fun j => b ≤ j) ⟨hgrow.os, hgrow.tape, hgrow.output, hgrow.size, fun k hk hn => hgrow.block k hk (fun e' => hn (own_blkN hrow e'.symm).1)⟩ (fun _ _ h => h)
theorem own_onlyN {W W' : World} {base e size n : Nat} {v : Value} {xs : List Value} {S : Nat → Prop} (h : W.ownsRow base e size v n xs) (ho : Only S W W') (hS : ∀ k, base ≤ k → ¬ S k) : W'.ownsRow base e size v n xs :=
  ⟨h.1, h.2.imp id fun ⟨g, cap, cur, hv, hb, hg, r⟩ => ⟨g, cap, cur, hv, hb, (ho.keep (Array.getElem?_eq_some_iff.1 hg).1 (hS g hb)).trans hg, r⟩⟩
theorem info2 : (Try.prog.info? 2).map (fun i => (i.zero, i.size, i.bytes)) = some (some (.int .i64 0), 1, 8) := by kernel_rfl
/-- the loop over the sessions under way -/
structure TickI (c b s : Nat) (now span : Int) (n r n0 : Nat) (D : DataW Unit) (w0 : World) (vo : Value) (xs : List Int) (left : Lit → Bool) (cnt : Nat) (W : World) : Prop where
  rng : W.ranges Try.prog 2 lifeR b r n D left cnt
  row : W.ownsRow n0 2 1 vo xs.length (ints xs)
  nodup : xs.Nodup
  gone : ∀ x ∈ xs, left (.int .i64 x) = false
  is : ∀ x ∈ xs, ∃ t d, look D x = some (t, d) ∧ d ≤ now
  all : ∀ x t d, look D x = some (t, d) → left (.int .i64 x) = false → d ≤ now → x ∈ xs
  old : Only (fun k => k = r) w0 W
  cap : xs.length + cnt ≤ n
  wf : ∀ x ∈ xs, (Lit.int .i64 x).wf = true
theorem strike_false {left : Lit → Bool} {x y : Int} : (left (.int .i64 y) && !(Lit.int .i64 y).sameKey (.int .i64 x)) = false ↔ left (.int .i64 y) = false ∨ y = x := by
  constructor
  · intro h
    rcases Bool.and_eq_false_iff.1 h with h1 | h1
    · exact .inl h1
    · have := WideAt.sameKey_eq (by simpa using h1)
      exact .inr (by cases this; rfl)
  · rintro (h | h)
    · rw [h]; rfl
    · subst h; simp [Lit.sameKey]
/-- an entry has come that is not taken -/
theorem tick_step {c b s : Nat} {now span : Int} {n r n0 : Nat} {D : DataW Unit} {w0 : World} {vo : Value} {xs : List Int} {left : Lit → Bool} {cnt cnt2 : Nat} {W w2 w4 : World} {x t d : Int} (h : TickI c b s now span n r n0 D w0 vo xs left cnt W)
    (hl : look D x = some (t, d)) (hrow : w2.ownsRow n0 2 1 vo xs.length (ints xs)) (ho : Only (fun k => k = r) w0 w2) (hrg : w2.ranges Try.prog 2 lifeR b r n D (fun z => left z && !z.sameKey (.int .i64 x)) cnt2) (hB : Below w2.heap.size w2 w4) (hc : cnt2 < cnt) (hd : now < d) :
    TickI c b s now span n r n0 D w0 vo xs (fun z => left z && !z.sameKey (.int .i64 x)) cnt2 w4 := by
  have hg : w2.grownBy w4 none := ⟨hB.os, hB.tape, hB.output, hB.size, fun i hi _ => hB.block i hi⟩
  refine ⟨hrg.kept hg (by simp) (by simp), own_onlyN hrow (Only.of_below (S := fun _ => False) hB) (fun _ _ h => h), h.nodup, fun y hy => strike_false.2 (.inl (h.gone y hy)), h.is, ?_, ho.trans (T := fun k => k = r) (Only.of_below hB) (fun _ _ e => e), by have := h.cap; omega, h.wf⟩
  · intro y t' d' h1 h2 h3
    rcases strike_false.1 h2 with h4 | h4
    · exact h.all y t' d' h1 h4 h3
    · subst h4
      rw [hl] at h1
      cases h1
      omega
/-- an entry has come that is taken -/
theorem tick_take {c b s : Nat} {now span : Int} {n r n0 : Nat} {D : DataW Unit} {w0 : World} {vo v' : Value} {xs : List Int} {left : Lit → Bool} {cnt cnt2 : Nat} {W w2 w4 w5 : World} {x t d : Int} {tmp : Obj} (h : TickI c b s now span n r n0 D w0 vo xs left cnt W)
    (hl : look D x = some (t, d)) (hlk : left (.int .i64 x) = true) (hwx : (Lit.int .i64 x).wf = true) (hrow : w2.ownsRow n0 2 1 vo xs.length (ints xs)) (ho : Only (fun k => k = r) w0 w2) (hrg : w2.ranges Try.prog 2 lifeR b r n D (fun z => left z && !z.sameKey (.int .i64 x)) cnt2) (hB : Below w2.heap.size w2 w4) (hc : cnt2 < cnt) (hd : d ≤ now)
    (hbr : b < n0) (hrn : r < n0) (hz : n0 = w0.heap.size) (hown : w5.ownsRow n0 2 1 v' (xs.length + 1) (ints xs ++ [.int .i64 x])) (hgrow : (w4.alloc tmp).grownBy w5 vo.ownBlock) :
    TickI c b s now span n r n0 D w0 v' (xs ++ [x]) (fun z => left z && !z.sameKey (.int .i64 x)) cnt2 w5 := by
  have hg : w2.grownBy w4 none := ⟨hB.os, hB.tape, hB.output, hB.size, fun i hi _ => hB.block i hi⟩
  have hx : ∀ k, vo.ownBlock = some k → n0 ≤ k := fun k hk => (own_blkN hrow hk).1
  have h4 : w4.ownsRow n0 2 1 vo xs.length (ints xs) := own_onlyN hrow (Only.of_below (S := fun _ => False) hB) (fun _ _ h => h)
  have hsz : n0 ≤ w4.heap.size := Nat.le_trans (Nat.le_of_eq hz) (Nat.le_trans ho.size hB.size)
  have h5 := app_only h4 hsz hgrow
  refine ⟨((hrg.kept hg (by simp) (by simp)).alloc tmp).kept hgrow (fun e => by have := hx b e.symm; omega) (fun e => by have := hx r e.symm; omega), by simpa [ints] using hown, ?_, ?_, ?_, ?_, ?_, by have := h.cap; simp; omega, fun y hy => by rcases List.mem_append.1 hy with hy | hy; exact h.wf y hy; rw [List.mem_singleton.1 hy]; exact hwx⟩
  · rw [List.nodup_append]
    refine ⟨h.nodup, by simp, fun a ha b' hb' e => ?_⟩
    rw [List.mem_singleton] at hb'
    subst hb'
    subst e
    rw [h.gone _ ha] at hlk; cases hlk
  · intro y hy
    rcases List.mem_append.1 hy with hy | hy
    · exact strike_false.2 (.inl (h.gone y hy))
    · exact strike_false.2 (.inr (List.mem_singleton.1 hy))
  · intro y hy
    rcases List.mem_append.1 hy with hy | hy
    · exact h.is y hy
    · rw [List.mem_singleton.1 hy]; exact ⟨t, d, hl, hd⟩
  · intro y t' d' h1 h2 h3
    rcases strike_false.1 h2 with h6 | h6
    · exact List.mem_append_left _ (h.all y t' d' h1 h6 h3)
    · rw [h6]; exact List.mem_append_right _ List.mem_cons_self
  · refine ⟨h5.os.trans (hB.os.trans ho.os), h5.tape.trans (hB.tape.trans ho.tape), h5.output.trans (hB.output.trans ho.output), Nat.le_trans ho.size (Nat.le_trans hB.size h5.size), fun k hk hn => ?_⟩
    have a1 : k < w2.heap.size := Nat.lt_of_lt_of_le hk ho.size
    have a2 : k < w4.heap.size := Nat.lt_of_lt_of_le a1 hB.size
    exact (h5.keep a2 (by omega)).trans ((hB.block k a1).trans (ho.keep hk hn))
theorem ownsMap_only {P : Program} {k : TypeId} {R : Value → Option (DataW Unit × List MemPlace)} {b n : Nat} {D : DataW Unit} {S : Nat → Prop} {w w' : World} (h : w.ownsMap P k R b n D) (ho : Only S w w') (hn : ¬ S b) : w'.ownsMap P k R b n D := by
  have hlt := h.lt
  obtain ⟨es, clock, hb, F, hs, rfl⟩ := h
  exact ⟨es, clock, (ho.keep hlt hn).trans hb, F, hs, rfl⟩
theorem ints_cell {W : World} {base g c : Nat} {xs : List Int} (h : W.ownsRow base 2 1 (.slice (some ⟨g, 0, none⟩) xs.length c) xs.length (ints xs)) {k : Nat} {x : Int} (hk : xs[k]? = some x) : W.cell? ⟨g, k, none⟩ = some (.int .i64 x) := by
  have hlt : k < xs.length := (List.getElem?_eq_some_iff.1 hk).1
  rw [World.ownsRow.cellAt h k (by omega)]
  simp [ints, hk]
theorem row_some {W : World} {base n c : Nat} {A : Option Addr} {xs : List Value} (h : W.ownsRow base 2 1 (.slice A n c) n xs) (hn : 0 < n) : ∃ g, A = some ⟨g, 0, none⟩ := by
  rcases h.2 with ⟨_, h0⟩ | ⟨g, cap, cur, hv, _⟩
  · omega
  · cases hv; exact ⟨g, rfl⟩
theorem own_baseN {W : World} {base b e size n : Nat} {v : Value} {xs : List Value} (h : W.ownsRow base e size v n xs) (hb : b ≤ base) : W.ownsRow b e size v n xs :=
  ⟨h.1, h.2.imp id fun ⟨g, cap, cur, hv, hb', r⟩ => ⟨g, cap, cur, hv, Nat.le_trans hb hb', r⟩⟩
/-- what slices.Sort does to a list of at most m numbers -/
def SortOK (m : Nat) : Prop := ∀ (v : Value) (xs : List Int) (w : World) (base : Nat), base ≤ w.heap.size → w.ownsRow base 2 1 v xs.length (ints xs) → xs.length ≤ m →
  Calls Try.prog 18 #[v] w fun e w' => e = .returned (.tuple #[]) ∧ ∃ ys : List Int, ys.Perm xs ∧ ys.Pairwise (· ≤ ·) ∧ w'.ownsRow base 2 1 v ys.length (ints ys) ∧ Only (fun k => base ≤ k) w w'
def dels (D : DataW Unit) : List Int → DataW Unit
  | [] => D
  | x :: l => dels (D.del (.int .i64 x)) l
theorem dels_snoc (D : DataW Unit) (l : List Int) (x : Int) : dels D (l ++ [x]) = (dels D l).del (.int .i64 x) := by
  induction l generalizing D with
  | nil => rfl
  | cons y l ih => exact ih _
def TickPost (c b s n : Nat) (now span : Int) (D : DataW Unit) (w : World) (e : Ending) (w' : World) : Prop := ∃ (v : Value) (ys : List Int), e = .returned v ∧ w'.ownsRow w.heap.size 2 1 v ys.length (ints ys) ∧ ys.Pairwise (· ≤ ·) ∧ ys.Nodup ∧
  (∀ x, x ∈ ys ↔ ∃ t d, look D x = some (t, d) ∧ d ≤ now + 1) ∧ Clk c b s (now + 1) span n (dels D ys) w' ∧ Only (fun k => k = c ∨ k = b ∨ w.heap.size ≤ k) w w'
set_option maxHeartbeats 8000000 in
theorem tick_calls {c b s n m : Nat} {now span : Int} {D : DataW Unit} {w : World} (h : Clk c b s now span n D w) (h1 : 1 ≤ span) (n0 : 0 ≤ now) (n1 : now ≤ 1000000000) (hn : n < 1000) (hm : n ≤ m) (hS : SortOK m) : Calls Try.prog 9 #[.pointer (some ⟨c, 0, none⟩)] w (TickPost c b s n now span D w) := by
  have HS := Lib.hid hS
  clear hS
  have K1 := Lib.hid (none_clk h h1)
  have x0 := cell_row (k := 0) (v := .int .i64 now) h.cells rfl
  have f0 := frozen_of_row w c 0 _ _ h.cells
  have hT := h.ticked (now + 1)
  have x2 := cell_row (k := 2) (v := .map (some b)) hT.cells rfl
  have HT := Lib.hid hT
  clear h hT
  go_enter Try.func9, Try.ntmps9
  go_wp2_with fail
  refine K1.out.mono ?_
  rintro e w1 ⟨rfl, rfl⟩
  go_wp2_with (at_range; refine wpList_range_own _ rfl _ 44 rfl 2 49 keyed2 Try.underlying44 lifeR b n D rfl HT.out.map ?_; intro w0 hrg0 hg0 hs0; have HR0 := Lib.hid (And.intro hrg0 (And.intro hg0 hs0)); clear hrg0 hg0 hs0)
  have hz : (w1.setCell ⟨c, 0, none⟩ (.int .i64 (now + 1))).heap.size = w1.heap.size := by simp [World.setCell]
  obtain ⟨W1, hW1⟩ : ∃ V, w1.setCell ⟨c, 0, none⟩ (.int .i64 (now + 1)) = V := ⟨_, rfl⟩
  rw [hW1] at hz HT HR0 x2 ⊢
  rw [hz] at HR0 ⊢
  obtain ⟨r, hr⟩ : ∃ r, w1.heap.size = r := ⟨_, rfl⟩
  rw [hr] at HR0 hz ⊢
  rename_i KK aK
  have HK := Lib.hid aK
  clear aK x2 x0 f0
  have hcr : c < r := by rw [← hz]; exact (Array.getElem?_eq_some_iff.1 HT.out.cells).1
  have hO0 : Only (fun k => k = r) W1 w0 := ⟨HR0.out.2.1.os, HR0.out.2.1.tape, HR0.out.2.1.output, HR0.out.2.1.size, fun k hk _ => HR0.out.2.1.block k hk (by simp)⟩
  go_frame
  go_loopw [3] (fun vo wr => ∃ (xs : List Int) (left : Lit → Bool) (cnt : Nat), Hid (TickI c b s (now + 1) span n r (r + 1) D w0 vo xs left cnt wr)) (fun _ wr => wr.rangeLeft b r)
  case atStart => exact ⟨[], _, _, Lib.hid ⟨HR0.out.1, World.ownsRow_nil _ _ _ _, List.nodup_nil, by simp, by simp, fun x t d hl h2 _ => (by unfold look at hl; rw [h2] at hl; simp at hl), Only.refl _ _, by simpa using HR0.out.1.owns.size_le, by simp⟩⟩
  case round =>
    obtain ⟨xs, left, cnt, HI⟩ := hrel
    obtain ⟨av, cv, rfl, hnc⟩ := own_sliceN HI.out.row
    go_wp2_with (first
      | (at_next; refine wpList_next_ranges _ rfl _ rfl 2 keyed2 lifeR (Value.int .i64) mkLife inv_key inv_life b r n _ _ _ rfl HI.out.rng ?_ ?_)
      | go_in)
    · intro hc0 hl0
      go_wp2
      refine HK.out _ _ ?_
      go_wp2_with fail
      refine (HS.out _ xs wr (r + 1) (by have := HI.out.old.size; have := HR0.out.2.2; omega) HI.out.row (by have := HI.out.cap; omega)).mono ?_
      rintro e w5 ⟨rfl, ys, hperm, hsort, hrow5, hO5⟩
      have hyl : ys.length = xs.length := hperm.length_eq
      have hmem : ∀ x, x ∈ ys ↔ ∃ t d, look D x = some (t, d) ∧ d ≤ now + 1 := fun x => by
        rw [hperm.mem_iff]
        exact ⟨HI.out.is x, fun ⟨t, d, h1, h2⟩ => HI.out.all x t d h1 (hl0 _) h2⟩
      have HM5 := Lib.hid (And.intro hmem (hperm.nodup_iff.2 HI.out.nodup))
      clear hmem
      have hyb : ys.length ≤ 1000 := by have := HI.out.cap; omega
      have hbr : b < r := by have := HT.out.map.lt; omega
      have hmap5 : w5.ownsMap Try.prog 2 lifeR b n D := ownsMap_only HI.out.rng.owns hO5 (by omega)
      have hcw : w5.heap[c]? = some (.cells (clockCells (now + 1) span b s) 46 (0, 0)) := by
        have h5 := hO0.keep (k := c) (by omega) (by omega)
        have h6 := HI.out.old.keep (k := c) (by rw [HR0.out.2.2]; omega) (by omega)
        have h7 := hO5.keep (k := c) (by have := HI.out.old.size; have := HR0.out.2.2; omega) (by omega)
        exact h7.trans (h6.trans (h5.trans HT.out.cells))
      have hcb : c ≠ b := fun e => by
        subst e
        obtain ⟨es, clock, hb, _⟩ := HT.out.map
        have := HT.out.cells; rw [hb] at this; cases this
      rw [← hyl] at hrow5
      have H5 := Lib.hid (And.intro hperm (And.intro hsort (And.intro hrow5 (And.intro hO5 (And.intro hmap5 hcw)))))
      rw [← hyl] at hnc ⊢
      clear hperm hsort hrow5 hO5 hmap5 hcw hc0 hl0
      go_wp2_with fail
      rename_i K2 aK2
      have HK2 := Lib.hid aK2
      clear aK2
      go_loopw [42] (fun vi wq => ∃ k : Nat, k ≤ ys.length ∧ vi = .int .i64 k ∧ Hid (wq.ownsMap Try.prog 2 lifeR b n (dels D (ys.take k)) ∧ Only (fun j => j = b) w5 wq)) (fun vi _ => ys.length - (intOf vi).toNat)
      case atStart => exact ⟨0, by omega, rfl, Lib.hid ⟨H5.out.2.2.2.2.1, Only.refl _ _⟩⟩
      case round =>
        obtain ⟨k, hk, rfl, HM⟩ := hrel
        by_cases hlt : k < ys.length
        · obtain ⟨x, hx⟩ : ∃ x, ys[k]? = some x := ⟨ys[k], List.getElem?_eq_getElem hlt⟩
          have hrowq : wr.ownsRow (r + 1) 2 1 (.slice av ys.length cv) ys.length (ints ys) := own_onlyN H5.out.2.2.1 HM.out.2 (fun j hj e => by omega)
          obtain ⟨g, rfl⟩ := row_some hrowq (by omega)
          have c1 := ints_cell hrowq hx
          have hcq : wr.heap[c]? = some (.cells (clockCells (now + 1) span b s) 46 (0, 0)) := (HM.out.2.keep (k := c) (Array.getElem?_eq_some_iff.1 H5.out.2.2.2.2.2).1 hcb).trans H5.out.2.2.2.2.2
          have c2 := cell_row (k := 2) (v := .map (some b)) hcq rfl
          have hwx : (Lit.int .i64 x).wf = true := HI.out.wf x ((H5.out.1.mem_iff).1 (List.mem_of_getElem? hx))
          have hsn : dels D (ys.take (k + 1)) = (dels D (ys.take k)).del (.int .i64 x) := by rw [List.take_add_one, hx]; exact dels_snoc _ _ _
          have HC := Lib.hid hsn
          clear hrowq hcq hsn hx
          go_wp2_with (at_delete; refine wpList_delete_own _ rfl _ _ 44 2 rfl 49 keyed2 Try.underlying44 _ b n _ rfl HM.out.1 _ _ rfl (keyOf_int_mk Try.underlying2 hwx) ?_; intro w6 hown6 hturn6; have HD := Lib.hid (And.intro hown6 hturn6); clear hown6 hturn6)
          exact ⟨⟨k + 1, hlt, by go_num, Lib.hid ⟨by rw [HC.out]; exact HD.out.1, HM.out.2.trans (turned_only HD.out.2) (fun _ _ h => h)⟩⟩, by simp [intOf]; omega⟩
        · obtain rfl : k = ys.length := by omega
          go_wp2
          refine HK2.out _ _ ?_
          go_wp2
          go_ret
          rw [List.take_length] at HM
          have hO1 : Only (fun k => k = c) w1 W1 := hW1 ▸ (Only.refl (fun k => k = c) w1).setCell (p := ⟨c, 0, none⟩) (.inl rfl) _
          have hrF := own_onlyN H5.out.2.2.1 HM.out.2 (fun j hj e => by omega)
          have hrF2 : wr.ownsRow (r + 1) 2 1 (.slice av xs.length cv) ys.length (ints ys) := by rw [← hyl]; exact hrF
          have hsr : s < r := by rw [← hz]; exact (Array.getElem?_eq_some_iff.1 HT.out.box).1
          have hsb : s ≠ b := fun e => by
            subst e
            obtain ⟨es, clock, hb, _⟩ := HT.out.map
            have := HT.out.box; rw [hb] at this; cases this
          have a0 := HR0.out.2.2
          have a1 := HI.out.old.size
          have a2 := H5.out.2.2.2.1.size
          have hbx : wr.heap[s]? = some (.cells #[.int .i64 span] 3 (0, 0)) :=
            (HM.out.2.keep (k := s) (by omega) hsb).trans ((H5.out.2.2.2.1.keep (k := s) (by omega) (by omega)).trans ((HI.out.old.keep (k := s) (by omega) (by omega)).trans ((hO0.keep (k := s) (by omega) (by omega)).trans HT.out.box)))
          refine ⟨_, ys, rfl, own_baseN hrF2 (by omega), H5.out.2.1, HM5.out.2, HM5.out.1, ⟨(HM.out.2.keep (k := c) (Array.getElem?_eq_some_iff.1 H5.out.2.2.2.2.2).1 hcb).trans H5.out.2.2.2.2.2, hbx, HM.out.1⟩, ?_⟩
          have e1 : Only (fun k => k = c ∨ k = b ∨ w1.heap.size ≤ k) w1 W1 := hO1.mono (fun _ _ e => .inl e)
          have e2 := e1.trans hO0 (fun k _ e => .inr (.inr (by omega)))
          have e3 := e2.trans HI.out.old (fun k _ e => .inr (.inr (by omega)))
          have e4 := e3.trans H5.out.2.2.2.1 (fun k _ e => .inr (.inr (by omega)))
          exact e4.trans HM.out.2 (fun k _ e => .inr (.inl e))
    · intro x t d kl y1 y2 w2 cnt2 hkey hlk hv hat hrg2 hlt hg2 hs2 hen
      have hen2 : (Instr.entry (.pointer (some ⟨r, 0, none⟩))).run Try.prog w2 = .ok (.tuple #[.int .i64 x, .agg #[.int .i32 t, .int .i64 d]]) w2 := hen
      obtain ⟨x', hxe, rfl, hwx⟩ := Maps.keyOf_int_inv Try.underlying2 hkey
      cases hxe
      obtain ⟨t', d', hve, hye, hwt, hwd⟩ := lifeR_inv hv
      cases hye
      cases hve
      have hlook := look_at (D := D) (x := x) (t := t) (d := d) hat
      have hO2 : Only (fun k => k = r) wr w2 := ⟨hg2.os, hg2.tape, hg2.output, hg2.size, fun k hk hn => hg2.block k hk (fun e => hn (by cases e; rfl))⟩
      have hrow2 : w2.ownsRow (r + 1) 2 1 (.slice av xs.length cv) xs.length (ints xs) := by
        refine HI.out.row.kept hg2 ?_
        rcases HI.out.row.2 with ⟨hv0, _⟩ | ⟨g, cap, cur, hv0, hb0, hgb, _⟩
        · exact .inl (by rw [hv0]; rfl)
        · refine .inr fun e' => ?_
          rw [hv0] at e'
          have : g = r := by simpa [Value.ownBlock] using e'
          omega
      have hOw := HI.out.old.trans hO2 (fun i _ e => e)
      have hcw : w2.heap[c]? = some (.cells (clockCells (now + 1) span b s) 46 (0, 0)) := by
        have h5 := hO0.keep (k := c) (by omega) (by omega)
        have h6 := hOw.keep (k := c) (by rw [HR0.out.2.2]; omega) (by omega)
        exact h6.trans (h5.trans HT.out.cells)
      have HE := Lib.hid (And.intro hlook (And.intro hrow2 (And.intro hOw (And.intro hcw (And.intro hrg2 (And.intro hlt (And.intro hlk hwx)))))))
      clear hkey hv hat hrg2 hlt hg2 hs2 hen hlook hO2 hrow2 hOw hcw hlk hwt hwd
      have hB3 : Below w2.heap.size w2 (w2.alloc (.cells #[.int .i32 t, .int .i64 d] 49)) := below_alloc (Below.refl _ w2) _
      have k1 : (w2.alloc (.cells #[.int .i32 t, .int .i64 d] 49)).cell? ⟨w2.heap.size, 1, none⟩ = some (.int .i64 d) := cell_row (World.alloc_heap_new w2 _) rfl
      have k2 : (w2.alloc (.cells #[.int .i32 t, .int .i64 d] 49)).cell? ⟨c, 0, none⟩ = some (.int .i64 (now + 1)) := cell_row ((hB3.block _ (Array.getElem?_eq_some_iff.1 HE.out.2.2.2.1).1).trans HE.out.2.2.2.1) rfl
      have y1 := cell_regrown k1
      have y2 := cell_regrown k2
      have HB3 := Lib.hid hB3
      clear hB3 k1 k2
      go_wp2_with fail
      refine wp_region_quiet_below (by kernel_rfl) (by kernel_rfl) ?_
      repeat (go_big_quiet_step (fail))
      refine wpQuiet_nil ?_
      intro _ hw'
      obtain ⟨⟨dq, osq⟩, hw''⟩ := hw'
      subst hw''
      have HB4 := Lib.hid (below_step HB3.out (below_regrown _ dq osq))
      obtain ⟨w4, hw4⟩ : ∃ V, Go.Sort.grow (redrawn (w2.alloc (.cells #[.int .i32 t, .int .i64 d] 49)) dq) osq = V := ⟨_, rfl⟩
      rw [hw4] at HB4
      simp only [hw4]
      clear hw4 y1 y2 hen2
      have HI4 := Lib.hid (tick_step HI.out HE.out.1 HE.out.2.1 HE.out.2.2.1 HE.out.2.2.2.2.1 HB4.out HE.out.2.2.2.2.2.1)
      by_cases hd : d ≤ now + 1
      · have q1 : decide (d ≤ now + 1) = true := decide_eq_true hd
        have hx4 := own_onlyN HE.out.2.1 (Only.of_below (S := fun _ => False) HB4.out) (fun _ _ h => h)
        have HX4 := Lib.hid hx4
        have hlen : xs.length ≤ 1000 := by have := HI.out.cap; omega
        have hw4r : r + 1 ≤ w4.heap.size := by
          have a1 := HE.out.2.2.1.size
          have a2 := HB4.out.size
          have a3 := HR0.out.2.2
          omega
        obtain ⟨i2, hi, hz0, hz1, hz2⟩ := info_parts info2
        have HI2 := Lib.hid (And.intro hi (And.intro hz0 (And.intro hz1 hz2)))
        clear hx4 hi hz0 hz1 hz2
        go_wp2_with (at_builtin; refine wpList_append_own _ rfl (.tmp 34) (.tmp 36) 29 rfl (r + 1) 2 i2 (.int .i64 0) 1 8 Try.underlying29 HI2.out.1 HI2.out.2.1 HI2.out.2.2.1 HI2.out.2.2.2 rfl (by decide) _ _ _ rfl (HX4.out.alloc _) ⟨w4.heap.size, 0, none⟩ 1 1 [.int .i64 x] rfl rfl (cell_one_new _ _ _) (by simp [Value.oneCell']) (by unfold maxLen; omega) (by omega) (by simp; omega) ?_; intro v' W5 hown' hgrow _; have HA := Lib.hid (tick_take HI.out HE.out.1 HE.out.2.2.2.2.2.2.1 HE.out.2.2.2.2.2.2.2 HE.out.2.1 HE.out.2.2.1 HE.out.2.2.2.2.1 HB4.out HE.out.2.2.2.2.2.1 hd (by have := HT.out.map.lt; omega) (by omega) HR0.out.2.2.symm hown' hgrow); clear hown' hgrow)
        exact ⟨⟨xs ++ [x], _, _, HA⟩, by rw [HA.out.rng.left_eq, HI.out.rng.left_eq]; exact HE.out.2.2.2.2.2.1⟩
      · have q1 : decide (d ≤ now + 1) = false := decide_eq_false hd
        go_wp2
        have HF := Lib.hid (HI4.out (by omega))
        exact ⟨⟨xs, _, _, HF⟩, by rw [HF.out.rng.left_eq, HI.out.rng.left_eq]; exact HE.out.2.2.2.2.2.1⟩
end Go.Proofs.Ytkmpbnicofiehaa.Q
