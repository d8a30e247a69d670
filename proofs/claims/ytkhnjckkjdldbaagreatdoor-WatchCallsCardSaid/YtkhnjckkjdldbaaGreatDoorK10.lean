import Derived.Test.YtkhnjckkjdldbaaGreatDoorKb
namespace Go.Proofs.YtkhnjckkjdldbaaGreatDoor.Q
open Go.RowKit Go.Proofs.YtkhnjckkjdldbaaGreatDoorW.PrintWords Go.Deep Go.Maps Go.WideShapes
open Go.Proofs.YtkhnjckkjdldbaaGreatDoor.Pr (S57 S59 z57 k57 k59)
open Go.Proofs.YtkhnjckkjdldbaaGreatDoor.Bag (AppTo wpList_app own_lower)
set_option linter.unusedVariables false
set_option linter.unusedSimpArgs false
attribute [local go_sem] Oper.semAt_some
/-! TAKE: A BOARD'S WATCHES, ONE BY ONE, TAKEN OUT (printed by mktake.py) -/
theorem own_only {W W' : World} {S : Nat → Prop} {base e size n : Nat} {v : Value} {xs : List Value} (h : W.ownsRow base e size v n xs) (ho : Only S W W') (hs : ∀ k, S k → k < base) : W'.ownsRow base e size v n xs :=
  own_move h fun k hk => ho.keep (World.ownsRow.lt h k hk).2 (fun s => by have h1 := hs k s; have h2 := (World.ownsRow.lt h k hk).1; omega)
theorem own_appT {W W' : World} {base e size n n' g cap : Nat} {v u : Value} {xs : List Value} (h : W.ownsRow base e size v n xs) (hA : AppTo W W' u n' g cap) (hne : ∀ k, v.ownBlock = some k → u.ownBlock ≠ some k) : W'.ownsRow base e size v n xs := by
  rcases hA with ⟨h1, h2⟩ | ⟨_, h2⟩
  · refine h.kept h2 ?_
    cases hk : v.ownBlock with
    | none => exact .inl rfl
    | some k => exact .inr fun e => hne k hk (by rw [h1]; simpa [Value.ownBlock] using e.symm)
  · refine h.kept h2 ?_
    cases hk : v.ownBlock with
    | none => exact .inl rfl
    | some k => exact .inr (by simp)
theorem Brd.appT {c b : Nat} {came : Int} {P : WN} {W W' : World} {u : Value} {n g cap : Nat} (h : Brd c b came P W) (hA : AppTo W W' u n g cap) (hne : ∀ k, u.ownBlock = some k → k ≠ b ∧ k ≠ c) : Brd c b came P W' := by
  obtain ⟨D, hm1, hm2⟩ := h.map
  obtain ⟨row, hg, hr⟩ : ∃ row, W.grownBy W' row ∧ ∀ k, row = some k → k ≠ b ∧ k ≠ c := by
    rcases hA with ⟨h1, h2⟩ | ⟨_, h2⟩
    · exact ⟨_, h2, fun k e => hne k (by rw [h1]; simpa [Value.ownBlock] using e)⟩
    · exact ⟨none, h2, fun k e => (by cases e)⟩
  exact ⟨(hg.block c (Array.getElem?_eq_some_iff.1 h.cells).1 (fun e => (hr c e.symm).2 rfl)).trans h.cells, ⟨D, hm1.kept hg (fun e => (hr b e.symm).1 rfl), hm2⟩, h.rise, h.low, h.c0, h.few⟩
theorem only_appT {W W' : World} {u : Value} {n g cap : Nat} {w : World} {b : Nat} (ho : Only (fun k => k = b) w W) (hA : AppTo W W' u n g cap) (hne : ∀ k, u.ownBlock = some k → w.heap.size ≤ k) : Only (fun k => k = b) w W' := by
  obtain ⟨row, hg, hr⟩ : ∃ row, W.grownBy W' row ∧ ∀ k, row = some k → w.heap.size ≤ k := by
    rcases hA with ⟨h1, h2⟩ | ⟨_, h2⟩
    · exact ⟨_, h2, fun k e => hne k (by rw [h1]; simpa [Value.ownBlock] using e)⟩
    · exact ⟨none, h2, fun k e => (by cases e)⟩
  exact ⟨hg.os.trans ho.os, hg.tape.trans ho.tape, hg.output.trans ho.output, Nat.le_trans ho.size hg.size, fun k hk hn => (hg.block k (Nat.lt_of_lt_of_le hk ho.size) (fun e => by have := hr k e.symm; omega)).trans (ho.block k hk hn)⟩
open Classical in
noncomputable def keepB (x : S57) (p : S57 × Int) : Bool := decide (p.1 ≠ x)
theorem keepB_iff {x : S57} {p : S57 × Int} : keepB x p = true ↔ p.1 ≠ x := by unfold keepB; simp
structure TakeI (c b base0 base1 : Nat) (came : Int) (P : WN) (q : S57 → Bool) (vA : Value) (w : World) (i : Nat) (vl : Value) (W : World) : Prop where
  brd : Brd c b came ((P.take i).filter (fun p => !q p.1) ++ P.drop i) W
  all : W.ownsRow base0 57 3 vA P.length ((P.map Prod.fst).flatMap encW)
  row : W.ownsRow base1 57 3 vl (((P.take i).map Prod.fst).filter q).length ((((P.take i).map Prod.fst).filter q).flatMap encW)
  old : Only (fun k => k = b) w W
  big : base1 ≤ W.heap.size
theorem take_next {P : WN} {i : Nat} (hi : i < P.length) : P.take (i + 1) = P.take i ++ [P[i]] := by rw [List.take_add_one, List.getElem?_eq_getElem hi]; rfl
theorem TakeI.below {c b base0 base1 : Nat} {came : Int} {P : WN} {q : S57 → Bool} {vA : Value} {w : World} {i : Nat} {vl : Value} {W W' : World} (h : TakeI c b base0 base1 came P q vA w i vl W) (hB : Below W.heap.size W W') : TakeI c b base0 base1 came P q vA w i vl W' :=
  ⟨h.brd.below hB, own_move h.all fun k hk => hB.block k (World.ownsRow.lt h.all k hk).2, own_move h.row fun k hk => hB.block k (World.ownsRow.lt h.row k hk).2, h.old.then_below hB, Nat.le_trans h.big hB.size⟩
/-- one that stays -/
theorem TakeI.stay {c b base0 base1 : Nat} {came : Int} {P : WN} {q : S57 → Bool} {vA : Value} {w : World} {i : Nat} {vl : Value} {W : World} (h : TakeI c b base0 base1 came P q vA w i vl W) (hi : i < P.length) (hq : q P[i].1 = false) : TakeI c b base0 base1 came P q vA w (i + 1) vl W := by
  have e1 : (P.take (i + 1)).filter (fun p => !q p.1) ++ P.drop (i + 1) = (P.take i).filter (fun p => !q p.1) ++ P.drop i := by
    rw [take_next hi, List.filter_append, List.drop_eq_getElem_cons hi]
    simp [hq]
  have e2 : ((P.take (i + 1)).map Prod.fst).filter q = ((P.take i).map Prod.fst).filter q := by
    rw [take_next hi, List.map_append, List.filter_append]
    simp [hq]
  exact ⟨by rw [e1]; exact h.brd, h.all, by rw [e2]; exact h.row, h.old, h.big⟩
/-- one that is taken out -/
theorem TakeI.took {c b base0 base1 : Nat} {came : Int} {P : WN} {q : S57 → Bool} {vA : Value} {w : World} {i : Nat} {vl : Value} {W W4 W5 W6 : World} {g cap : Nat} (h : TakeI c b base0 base1 came P q vA w i vl W) (hi : i < P.length) (hq : q P[i].1 = true)
    (hB : Below W.heap.size W W4) (hown : W5.ownsRow base1 57 3 (.slice (some ⟨g, 0, none⟩) ((((P.take i).map Prod.fst).filter q).length + 1) cap) ((((P.take i).map Prod.fst).filter q).length + 1) ((((P.take i).map Prod.fst).filter q).flatMap encW ++ encW P[i].1))
    (hA : AppTo W4 W5 vl (((P.take i).map Prod.fst).filter q).length g cap) (hbb : b < base0) (hcb : c < base0) (h0 : base0 = w.heap.size) (h01 : base0 ≤ base1) (hvA : ∀ k, vA.ownBlock = some k → k < base1)
    (ho : Only (fun k => k = b) W5 W6) (hbr : Brd c b came (((P.take i).filter (fun p => !q p.1) ++ P.drop i).filter (keepB P[i].1)) W6) (hnd : P.Pairwise (fun p q => p.1 ≠ q.1)) :
    TakeI c b base0 base1 came P q vA w (i + 1) (.slice (some ⟨g, 0, none⟩) ((((P.take i).map Prod.fst).filter q).length + 1) cap) W6 := by
  have h4 := h.below hB
  have hvl : ∀ k, vl.ownBlock = some k → base1 ≤ k := fun k hk => (World.ownsRow.lt h.row k hk).1
  have e1 : ((P.take i).filter (fun p => !q p.1) ++ P.drop i).filter (keepB P[i].1) = (P.take (i + 1)).filter (fun p => !q p.1) ++ P.drop (i + 1) := by
    have hsp : P = P.take i ++ P[i] :: P.drop (i + 1) := by rw [← List.drop_eq_getElem_cons hi, List.take_append_drop]
    rw [hsp, List.pairwise_append] at hnd
    obtain ⟨_, n2, n3⟩ := hnd
    rw [List.pairwise_cons] at n2
    rw [List.filter_append, List.drop_eq_getElem_cons hi, take_next hi, List.filter_append]
    have f1 : ((P.take i).filter (fun p => !q p.1)).filter (keepB P[i].1) = (P.take i).filter (fun p => !q p.1) :=
      List.filter_eq_self.2 fun p hp => keepB_iff.2 (n3 p (List.mem_filter.1 hp).1 P[i] List.mem_cons_self)
    have f2 : (P[i] :: P.drop (i + 1)).filter (keepB P[i].1) = P.drop (i + 1) := by
      rw [List.filter_cons_of_neg (by rw [keepB_iff]; simp)]
      exact List.filter_eq_self.2 fun p hp => keepB_iff.2 (n2.1 p hp).symm
    rw [f1, f2]
    simp [hq]
  have e2 : ((P.take (i + 1)).map Prod.fst).filter q = ((P.take i).map Prod.fst).filter q ++ [P[i].1] := by
    rw [take_next hi, List.map_append, List.filter_append]
    simp [hq]
  have e3 : (((P.take i).map Prod.fst).filter q ++ [P[i].1]).flatMap encW = (((P.take i).map Prod.fst).filter q).flatMap encW ++ encW P[i].1 := by rw [List.flatMap_append]; simp
  have e4 : (((P.take i).map Prod.fst).filter q ++ [P[i].1]).length = (((P.take i).map Prod.fst).filter q).length + 1 := by simp
  refine ⟨by rw [← e1]; exact hbr, ?_, ?_, ?_, ?_⟩
  · exact own_only (own_appT h4.all hA (fun k hk e => by have h5 := hvl k e; have h6 := hvA k hk; omega)) ho (fun k e => by omega)
  · rw [e2, e3, e4]
    exact own_only hown ho (fun k e => by omega)
  · exact (only_appT h4.old hA (fun k hk => by have h5 := hvl k hk; omega)).trans ho (fun _ _ e => e)
  · have s5 : W4.heap.size ≤ W5.heap.size := by
      rcases hA with ⟨_, h2⟩ | ⟨_, h2⟩
      · exact h2.size
      · exact h2.size
    exact Nat.le_trans h4.big (Nat.le_trans s5 ho.size)
set_option maxRecDepth 100000 in
set_option maxHeartbeats 8000000 in
theorem takeAll_calls {c b : Nat} {came : Int} {P : WN} {w : World} (h : Brd c b came P w) (hc : came < 4611686018427387904) (q : S57 → Bool)
    (hq : ∀ x, wfW x → ∀ W, Only (fun k => k = b) w W → Calls Tryz.prog 55 #[.agg (encW x).toArray] W fun e w' => e = .returned (.bool (q x)) ∧ Below W.heap.size W w') :
    Calls Tryz.prog 53 #[.pointer (some ⟨c, 0, none⟩), .func (.func 55) #[] #[]] w fun e w' => ∃ v, e = .returned v ∧ w'.ownsRow w.heap.size 57 3 v ((P.map Prod.fst).filter q).length (((P.map Prod.fst).filter q).flatMap encW) ∧ Brd c b came (P.filter fun p => !q p.1) w' ∧ Only (fun k => k = b) w w' := by
  have KA := Lib.hid (all_calls h hc)
  have KQ := Lib.hid hq
  have hbb : b < w.heap.size := by obtain ⟨D, h1, _⟩ := h.map; exact h1.lt
  have hcb : c < w.heap.size := (Array.getElem?_eq_some_iff.1 h.cells).1
  have hnd : P.Pairwise (fun p q => p.1 ≠ q.1) := by obtain ⟨D, _, h2⟩ := h.map; exact h2.nodup
  have hwf : ∀ p ∈ P, wfW p.1 := by obtain ⟨D, _, h2⟩ := h.map; exact h2.wf
  have HND := Lib.hid (And.intro hnd hwf)
  have HBR := Lib.hid h
  obtain ⟨N, hN⟩ : ∃ n, P.length = n := ⟨_, rfl⟩
  have hN64 : N ≤ 64 := by rw [← hN]; exact h.few
  have HN := Lib.hid hN
  obtain ⟨iW, hi, hz0, hz1, hz2⟩ := info_parts infoW
  have HI := Lib.hid (And.intro hi (And.intro hz0 (And.intro hz1 hz2)))
  clear h hq hnd hwf hN hi hz0 hz1 hz2
  go_enter Tryz.func53, Tryz.ntmps53
  go_wp2_with fail
  refine KA.out.mono ?_
  rintro e w1 ⟨vA, rfl, hown, hB⟩
  have hsz1 : w.heap.size ≤ w1.heap.size := hB.size
  have hlt1 : ∀ k, vA.ownBlock = some k → k < w1.heap.size := fun k hk => (World.ownsRow.lt hown k hk).2
  have hI0 : TakeI c b w.heap.size w1.heap.size came P q vA w 0 (.slice none 0 0) w1 := ⟨by simpa using HBR.out.below hB, hown, World.ownsRow_nil _ _ _ _, Only.of_below hB, Nat.le_refl _⟩
  obtain ⟨A, capA, hvA, hAg⟩ : ∃ A cap, vA = .slice A P.length cap ∧ (0 < P.length → ∃ g, A = some ⟨g, 0, none⟩) ∧ P.length ≤ cap := by
    rcases hown.2 with ⟨h1, h2⟩ | ⟨g, cap, cur, h1, _, _, h2, _⟩
    · exact ⟨none, 0, by rw [h1, h2], fun h => by omega, by omega⟩
    · exact ⟨_, cap, h1, fun _ => ⟨g, rfl⟩, h2⟩
  subst hvA
  have HI0 := Lib.hid hI0
  have HA1 := Lib.hid (And.intro hlt1 hAg)
  rw [HN.out] at hAg ⊢
  have hcapA := hAg.2
  clear hown hB hI0 hlt1 hAg KA
  go_wp2_with fail
  go_loopw [5, 11] (fun vl vi wr => ∃ x : Int, vi = .int .i64 x ∧ 0 ≤ x ∧ x ≤ (N : Int) ∧ Hid (TakeI c b w.heap.size w1.heap.size came P q (.slice A P.length capA) w x.toNat vl wr)) (fun _ vi _ => ((N : Int) - intOf vi).toNat)
  case atStart => exact ⟨0, rfl, by omega, by omega, HI0⟩
  case round =>
  clear HI0
  obtain ⟨x, rfl, x0, xn, HT⟩ := hrel
  by_cases c2 : x < (N : Int)
  · have q2 : decide (x < (N : Int)) = true := decide_eq_true c2
    have hx : x.toNat < P.length := by rw [HN.out]; omega
    obtain ⟨g, rfl⟩ := HA1.out.2.1 (by omega)
    obtain ⟨y, hy⟩ : ∃ y, P[x.toNat].1 = y := ⟨_, rfl⟩
    have hcell : ∀ j, j < 3 → wr.cell? ⟨g, x.toNat * 3 + j, none⟩ = (encW y)[j]? := fun j hj => by
      have h1 := World.ownsRow.cellAt HT.out.all (x.toNat * 3 + j) (by omega)
      rw [h1, flat_getK (k := 3) (fun _ => rfl) (P.map Prod.fst) x.toNat (by simpa using hx) j hj, List.getElem_map, hy]
    have hwy : wfW y := by rw [← hy]; exact HND.out.2 _ (List.getElem_mem _)
    have HY := Lib.hid hy
    obtain ⟨qq, hqq⟩ : ∃ v, q y = v := ⟨_, rfl⟩
    have HQ := Lib.hid hqq
    have KC := fun W (ho : Only (fun k => k = b) w W) => KQ.out y hwy W ho
    rw [hqq] at KC
    have KC := Lib.hid KC
    obtain ⟨a, k, p⟩ := y
    have o0 : wr.cell? ⟨g, x.toNat * 3, none⟩ = some (.int .i64 a) := hcell 0 (by omega)
    have o1 : wr.cell? ⟨g, x.toNat * 3 + 1, none⟩ = some (.int .i8 k) := hcell 1 (by omega)
    have o2 : wr.cell? ⟨g, x.toNat * 3 + 2, none⟩ = some (.string p) := hcell 2 (by omega)
    obtain ⟨W2, hW2⟩ : ∃ V, wr.alloc (.cells #[.int .i64 a, .int .i8 k, .string p] 57) = V := ⟨_, rfl⟩
    have hB2 : Below wr.heap.size wr W2 := by rw [← hW2]; exact below_alloc (Below.refl _ _) _
    have hz : W2.heap[wr.heap.size]? = some (.cells #[.int .i64 a, .int .i8 k, .string p] 57 (0, 0)) := by rw [← hW2]; exact World.alloc_heap_new wr _
    have d0 := cell_rowK (k := 0) (v := .int .i64 a) hz rfl
    have d1 := cell_rowK (k := 1) (v := .int .i8 k) hz rfl
    have d2 := cell_rowK (k := 2) (v := .string p) hz rfl
    rw [← hW2] at d0 d1 d2
    have HVL := Lib.hid (fun k hk => (World.ownsRow.lt HT.out.row k hk).2)
    have HT2 := Lib.hid (HT.out.below hB2)
    have KC2 := Lib.hid (KC.out W2 HT2.out.old)
    have HZ := Lib.hid hz
    have HW2 := Lib.hid hW2
    have x0' := eq_true x0
    have c2' := eq_true c2
    clear hcell hwy hy hqq hB2 hz hW2 KC HT
    go_wp2_with fail
    rw [HW2.out]
    refine KC2.out.mono ?_
    rintro e w3 ⟨rfl, hB⟩
    have HT3 := Lib.hid (HT2.out.below hB)
    have HZ3 := Lib.hid (blkK HZ.out hB)
    clear hB KC2 d0 d1 d2 o0 o1 o2 HT2
    cases qq with
    | false =>
      go_wp2
      go_roundw
      case measure => simp [intOf]; omega
      case rel =>
        refine ⟨x + 1, rfl, by omega, by omega, Lib.hid ?_⟩
        rw [show (x + 1).toNat = x.toNat + 1 by omega]
        exact HT3.out.stay hx (by rw [HY.out]; exact HQ.out)
    | true =>
    have HQ2 : Hid (q P[x.toNat].1 = true) := Lib.hid (by rw [HY.out]; exact HQ.out)
    have hn64 : (((P.take x.toNat).map Prod.fst).filter q).length ≤ 64 := by
      have h1 := List.length_filter_le q ((P.take x.toNat).map Prod.fst)
      rw [List.length_map, List.length_take] at h1
      have h2 := HN.out
      omega
    have HL64 := Lib.hid hn64
    obtain ⟨W4, hW4⟩ : ∃ V, w3.alloc (.cells #[.int .i64 a, .int .i8 k, .string p] 57) = V := ⟨_, rfl⟩
    have hB4 : Below w3.heap.size w3 W4 := by rw [← hW4]; exact below_alloc (Below.refl _ _) _
    have hz4 := World.alloc_heap_new w3 (.cells #[.int .i64 a, .int .i8 k, .string p] 57)
    rw [hW4] at hz4
    have HT4 := Lib.hid (HT3.out.below hB4)
    have HOW := Lib.hid HT4.out.row
    have HNW := Lib.hid (World.news_of_block hz4)
    have hbs : w1.heap.size ≤ W4.heap.size := HT4.out.big
    have HBS4 := Lib.hid hbs
    have HB4 := Lib.hid hB4
    have ho1 : ∀ u ∈ [Value.int .i64 a, Value.int .i8 k, Value.string p], u.oneCell' = true := by simp [Value.oneCell']
    have HO1 := Lib.hid ho1
    have HZ4 := Lib.hid (blkK HZ3.out hB4)
    rw [← hW4] at HOW HNW HBS4
    have HW4 := Lib.hid hW4
    have f0 := cell_rowK (k := 0) (v := .int .i64 a) HZ3.out rfl
    have f1 := cell_rowK (k := 1) (v := .int .i8 k) HZ3.out rfl
    have f2 := cell_rowK (k := 2) (v := .string p) HZ3.out rfl
    clear hB4 hz4 hbs ho1 hW4 hn64
    go_wp2_with (first | (at_builtin; refine wpList_app rfl (.tmp 18) (.tmp 20) 64 rfl 57 iW _ 3 32 Tryz.underlying64 HI.out.1 HI.out.2.1 HI.out.2.2.1 HI.out.2.2.2 rfl (by decide) w1.heap.size _ _ _ rfl HOW.out ⟨w3.heap.size, 0, none⟩ 1 [.int .i64 a, .int .i8 k, .string p] rfl rfl HNW.out HO1.out (by have := HL64.out; unfold maxLen; omega) (by have := HL64.out; omega) HBS4.out ?_; intro g5 cap5 w5 hown5 hA5; have H5 := Lib.hid (And.intro hown5 hA5); clear hown5 hA5 f0 f1 f2))
    have h5 := H5.out
    rw [HW4.out] at h5
    have hvl := fun k hk => (World.ownsRow.lt HT4.out.row k hk).1
    have hbr5 := HT4.out.brd.appT h5.2 (fun k hk => by have h6 := hvl k hk; omega)
    have hwr4 : wr.heap.size < W4.heap.size := (Array.getElem?_eq_some_iff.1 HZ4.out).1
    have hz5 : w5.heap[wr.heap.size]? = some (.cells #[.int .i64 a, .int .i8 k, .string p] 57 (0, 0)) := by
      rcases h5.2 with ⟨h6, h7⟩ | ⟨_, h7⟩
      · exact (h7.block _ hwr4 (fun e => by have h8 := HVL.out g5 (congrArg Value.ownBlock h6); have h9 := Option.some.inj e; omega)).trans HZ4.out
      · exact (h7.block _ hwr4 (by simp)).trans HZ4.out
    have hmem : ((⟨a, k, p⟩ : S57), P[x.toNat].2) ∈ (P.take x.toNat).filter (fun p => !q p.1) ++ P.drop x.toNat := by
      rw [List.drop_eq_getElem_cons hx]
      refine List.mem_append_right _ ?_
      rw [← HY.out]
      exact List.mem_cons_self
    obtain ⟨w6, hrun, ho6, hbr6⟩ := hbr5.drew.dropped hmem (keepB ⟨a, k, p⟩) (fun _ _ => keepB_iff) 0
    rw [← HY.out] at hbr6
    have HN6 := Lib.hid (HT3.out.took hx HQ2.out HB4.out (by have h8 := h5.1; rw [HY.out]; exact h8) h5.2 hbb hcb rfl hsz1 HA1.out.1 ((Only.refl (fun k => k = b) w5).drew.trans ho6 (fun _ _ e => e)) hbr6 HND.out.1)
    have y0 : w5.drew.cell? ⟨wr.heap.size, 0, none⟩ = some (.int .i64 a) := cell_rowK (k := 0) hz5 rfl
    have y1 : w5.drew.cell? ⟨wr.heap.size, 1, none⟩ = some (.int .i8 k) := cell_rowK (k := 1) hz5 rfl
    have y2 : w5.drew.cell? ⟨wr.heap.size, 2, none⟩ = some (.string p) := cell_rowK (k := 2) hz5 rfl
    have y3 : w5.drew.cell? ⟨c, 1, none⟩ = some (.map (some b)) := cell_rowK (k := 1) hbr5.cells rfl
    clear h5 hvl hbr5 hwr4 hz5 hmem ho6 hbr6
    go_region_with (fail)
    all_goals (
      clear y0 y1 y2 y3
      go_wp2
      go_roundw
      case measure => simp [intOf]; omega
      case rel =>
        refine ⟨x + 1, rfl, by omega, by omega, Lib.hid ?_⟩
        rw [show (x + 1).toNat = x.toNat + 1 by omega]
        have h8 := HN6.out
        rw [List.map_take] at h8
        exact h8)
  · have q2 : decide (x < (N : Int)) = false := decide_eq_false c2
    have hxN : x.toNat = P.length := by rw [HN.out]; omega
    have HF := HT.out
    rw [hxN] at HF
    have HF := Lib.hid HF
    clear HT hxN
    go_wp2
    go_ret
    have e1 : P.take P.length = P := List.take_length
    refine ⟨_, rfl, ?_, ?_, HF.out.old⟩
    · have h1 := HF.out.row
      rw [e1] at h1
      exact own_lower h1 hsz1
    · have h1 := HF.out.brd
      rw [e1, List.drop_length, List.append_nil] at h1
      exact h1
set_option maxRecDepth 100000 in
set_option maxHeartbeats 8000000 in
theorem takeDrop_calls {c b : Nat} {came : Int} {P : WN} {w : World} (h : Brd c b came P w) (hc : came < 4611686018427387904) (q : S57 → Bool) (dx : Nat)
    (hq : ∀ x, wfW x → ∀ W, Only (fun k => k = b) w W → Calls Tryz.prog 54 #[.agg (encW x).toArray, .pointer (some ⟨dx, 0, none⟩)] W fun e w' => e = .returned (.bool (q x)) ∧ Below W.heap.size W w') :
    Calls Tryz.prog 53 #[.pointer (some ⟨c, 0, none⟩), .func (.func 54) #[] #[.pointer (some ⟨dx, 0, none⟩)]] w fun e w' => ∃ v, e = .returned v ∧ w'.ownsRow w.heap.size 57 3 v ((P.map Prod.fst).filter q).length (((P.map Prod.fst).filter q).flatMap encW) ∧ Brd c b came (P.filter fun p => !q p.1) w' ∧ Only (fun k => k = b) w w' := by
  have KA := Lib.hid (all_calls h hc)
  have KQ := Lib.hid hq
  have hbb : b < w.heap.size := by obtain ⟨D, h1, _⟩ := h.map; exact h1.lt
  have hcb : c < w.heap.size := (Array.getElem?_eq_some_iff.1 h.cells).1
  have hnd : P.Pairwise (fun p q => p.1 ≠ q.1) := by obtain ⟨D, _, h2⟩ := h.map; exact h2.nodup
  have hwf : ∀ p ∈ P, wfW p.1 := by obtain ⟨D, _, h2⟩ := h.map; exact h2.wf
  have HND := Lib.hid (And.intro hnd hwf)
  have HBR := Lib.hid h
  obtain ⟨N, hN⟩ : ∃ n, P.length = n := ⟨_, rfl⟩
  have hN64 : N ≤ 64 := by rw [← hN]; exact h.few
  have HN := Lib.hid hN
  obtain ⟨iW, hi, hz0, hz1, hz2⟩ := info_parts infoW
  have HI := Lib.hid (And.intro hi (And.intro hz0 (And.intro hz1 hz2)))
  clear h hq hnd hwf hN hi hz0 hz1 hz2
  go_enter Tryz.func53, Tryz.ntmps53
  go_wp2_with fail
  refine KA.out.mono ?_
  rintro e w1 ⟨vA, rfl, hown, hB⟩
  have hsz1 : w.heap.size ≤ w1.heap.size := hB.size
  have hlt1 : ∀ k, vA.ownBlock = some k → k < w1.heap.size := fun k hk => (World.ownsRow.lt hown k hk).2
  have hI0 : TakeI c b w.heap.size w1.heap.size came P q vA w 0 (.slice none 0 0) w1 := ⟨by simpa using HBR.out.below hB, hown, World.ownsRow_nil _ _ _ _, Only.of_below hB, Nat.le_refl _⟩
  obtain ⟨A, capA, hvA, hAg⟩ : ∃ A cap, vA = .slice A P.length cap ∧ (0 < P.length → ∃ g, A = some ⟨g, 0, none⟩) ∧ P.length ≤ cap := by
    rcases hown.2 with ⟨h1, h2⟩ | ⟨g, cap, cur, h1, _, _, h2, _⟩
    · exact ⟨none, 0, by rw [h1, h2], fun h => by omega, by omega⟩
    · exact ⟨_, cap, h1, fun _ => ⟨g, rfl⟩, h2⟩
  subst hvA
  have HI0 := Lib.hid hI0
  have HA1 := Lib.hid (And.intro hlt1 hAg)
  rw [HN.out] at hAg ⊢
  have hcapA := hAg.2
  clear hown hB hI0 hlt1 hAg KA
  go_wp2_with fail
  go_loopw [5, 11] (fun vl vi wr => ∃ x : Int, vi = .int .i64 x ∧ 0 ≤ x ∧ x ≤ (N : Int) ∧ Hid (TakeI c b w.heap.size w1.heap.size came P q (.slice A P.length capA) w x.toNat vl wr)) (fun _ vi _ => ((N : Int) - intOf vi).toNat)
  case atStart => exact ⟨0, rfl, by omega, by omega, HI0⟩
  case round =>
  clear HI0
  obtain ⟨x, rfl, x0, xn, HT⟩ := hrel
  by_cases c2 : x < (N : Int)
  · have q2 : decide (x < (N : Int)) = true := decide_eq_true c2
    have hx : x.toNat < P.length := by rw [HN.out]; omega
    obtain ⟨g, rfl⟩ := HA1.out.2.1 (by omega)
    obtain ⟨y, hy⟩ : ∃ y, P[x.toNat].1 = y := ⟨_, rfl⟩
    have hcell : ∀ j, j < 3 → wr.cell? ⟨g, x.toNat * 3 + j, none⟩ = (encW y)[j]? := fun j hj => by
      have h1 := World.ownsRow.cellAt HT.out.all (x.toNat * 3 + j) (by omega)
      rw [h1, flat_getK (k := 3) (fun _ => rfl) (P.map Prod.fst) x.toNat (by simpa using hx) j hj, List.getElem_map, hy]
    have hwy : wfW y := by rw [← hy]; exact HND.out.2 _ (List.getElem_mem _)
    have HY := Lib.hid hy
    obtain ⟨qq, hqq⟩ : ∃ v, q y = v := ⟨_, rfl⟩
    have HQ := Lib.hid hqq
    have KC := fun W (ho : Only (fun k => k = b) w W) => KQ.out y hwy W ho
    rw [hqq] at KC
    have KC := Lib.hid KC
    obtain ⟨a, k, p⟩ := y
    have o0 : wr.cell? ⟨g, x.toNat * 3, none⟩ = some (.int .i64 a) := hcell 0 (by omega)
    have o1 : wr.cell? ⟨g, x.toNat * 3 + 1, none⟩ = some (.int .i8 k) := hcell 1 (by omega)
    have o2 : wr.cell? ⟨g, x.toNat * 3 + 2, none⟩ = some (.string p) := hcell 2 (by omega)
    obtain ⟨W2, hW2⟩ : ∃ V, wr.alloc (.cells #[.int .i64 a, .int .i8 k, .string p] 57) = V := ⟨_, rfl⟩
    have hB2 : Below wr.heap.size wr W2 := by rw [← hW2]; exact below_alloc (Below.refl _ _) _
    have hz : W2.heap[wr.heap.size]? = some (.cells #[.int .i64 a, .int .i8 k, .string p] 57 (0, 0)) := by rw [← hW2]; exact World.alloc_heap_new wr _
    have d0 := cell_rowK (k := 0) (v := .int .i64 a) hz rfl
    have d1 := cell_rowK (k := 1) (v := .int .i8 k) hz rfl
    have d2 := cell_rowK (k := 2) (v := .string p) hz rfl
    rw [← hW2] at d0 d1 d2
    have HVL := Lib.hid (fun k hk => (World.ownsRow.lt HT.out.row k hk).2)
    have HT2 := Lib.hid (HT.out.below hB2)
    have KC2 := Lib.hid (KC.out W2 HT2.out.old)
    have HZ := Lib.hid hz
    have HW2 := Lib.hid hW2
    have x0' := eq_true x0
    have c2' := eq_true c2
    clear hcell hwy hy hqq hB2 hz hW2 KC HT
    go_wp2_with fail
    rw [HW2.out]
    refine KC2.out.mono ?_
    rintro e w3 ⟨rfl, hB⟩
    have HT3 := Lib.hid (HT2.out.below hB)
    have HZ3 := Lib.hid (blkK HZ.out hB)
    clear hB KC2 d0 d1 d2 o0 o1 o2 HT2
    cases qq with
    | false =>
      go_wp2
      go_roundw
      case measure => simp [intOf]; omega
      case rel =>
        refine ⟨x + 1, rfl, by omega, by omega, Lib.hid ?_⟩
        rw [show (x + 1).toNat = x.toNat + 1 by omega]
        exact HT3.out.stay hx (by rw [HY.out]; exact HQ.out)
    | true =>
    have HQ2 : Hid (q P[x.toNat].1 = true) := Lib.hid (by rw [HY.out]; exact HQ.out)
    have hn64 : (((P.take x.toNat).map Prod.fst).filter q).length ≤ 64 := by
      have h1 := List.length_filter_le q ((P.take x.toNat).map Prod.fst)
      rw [List.length_map, List.length_take] at h1
      have h2 := HN.out
      omega
    have HL64 := Lib.hid hn64
    obtain ⟨W4, hW4⟩ : ∃ V, w3.alloc (.cells #[.int .i64 a, .int .i8 k, .string p] 57) = V := ⟨_, rfl⟩
    have hB4 : Below w3.heap.size w3 W4 := by rw [← hW4]; exact below_alloc (Below.refl _ _) _
    have hz4 := World.alloc_heap_new w3 (.cells #[.int .i64 a, .int .i8 k, .string p] 57)
    rw [hW4] at hz4
    have HT4 := Lib.hid (HT3.out.below hB4)
    have HOW := Lib.hid HT4.out.row
    have HNW := Lib.hid (World.news_of_block hz4)
    have hbs : w1.heap.size ≤ W4.heap.size := HT4.out.big
    have HBS4 := Lib.hid hbs
    have HB4 := Lib.hid hB4
    have ho1 : ∀ u ∈ [Value.int .i64 a, Value.int .i8 k, Value.string p], u.oneCell' = true := by simp [Value.oneCell']
    have HO1 := Lib.hid ho1
    have HZ4 := Lib.hid (blkK HZ3.out hB4)
    rw [← hW4] at HOW HNW HBS4
    have HW4 := Lib.hid hW4
    have f0 := cell_rowK (k := 0) (v := .int .i64 a) HZ3.out rfl
    have f1 := cell_rowK (k := 1) (v := .int .i8 k) HZ3.out rfl
    have f2 := cell_rowK (k := 2) (v := .string p) HZ3.out rfl
    clear hB4 hz4 hbs ho1 hW4 hn64
    go_wp2_with (first | (at_builtin; refine wpList_app rfl (.tmp 18) (.tmp 20) 64 rfl 57 iW _ 3 32 Tryz.underlying64 HI.out.1 HI.out.2.1 HI.out.2.2.1 HI.out.2.2.2 rfl (by decide) w1.heap.size _ _ _ rfl HOW.out ⟨w3.heap.size, 0, none⟩ 1 [.int .i64 a, .int .i8 k, .string p] rfl rfl HNW.out HO1.out (by have := HL64.out; unfold maxLen; omega) (by have := HL64.out; omega) HBS4.out ?_; intro g5 cap5 w5 hown5 hA5; have H5 := Lib.hid (And.intro hown5 hA5); clear hown5 hA5 f0 f1 f2))
    have h5 := H5.out
    rw [HW4.out] at h5
    have hvl := fun k hk => (World.ownsRow.lt HT4.out.row k hk).1
    have hbr5 := HT4.out.brd.appT h5.2 (fun k hk => by have h6 := hvl k hk; omega)
    have hwr4 : wr.heap.size < W4.heap.size := (Array.getElem?_eq_some_iff.1 HZ4.out).1
    have hz5 : w5.heap[wr.heap.size]? = some (.cells #[.int .i64 a, .int .i8 k, .string p] 57 (0, 0)) := by
      rcases h5.2 with ⟨h6, h7⟩ | ⟨_, h7⟩
      · exact (h7.block _ hwr4 (fun e => by have h8 := HVL.out g5 (congrArg Value.ownBlock h6); have h9 := Option.some.inj e; omega)).trans HZ4.out
      · exact (h7.block _ hwr4 (by simp)).trans HZ4.out
    have hmem : ((⟨a, k, p⟩ : S57), P[x.toNat].2) ∈ (P.take x.toNat).filter (fun p => !q p.1) ++ P.drop x.toNat := by
      rw [List.drop_eq_getElem_cons hx]
      refine List.mem_append_right _ ?_
      rw [← HY.out]
      exact List.mem_cons_self
    obtain ⟨w6, hrun, ho6, hbr6⟩ := hbr5.drew.dropped hmem (keepB ⟨a, k, p⟩) (fun _ _ => keepB_iff) 0
    rw [← HY.out] at hbr6
    have HN6 := Lib.hid (HT3.out.took hx HQ2.out HB4.out (by have h8 := h5.1; rw [HY.out]; exact h8) h5.2 hbb hcb rfl hsz1 HA1.out.1 ((Only.refl (fun k => k = b) w5).drew.trans ho6 (fun _ _ e => e)) hbr6 HND.out.1)
    have y0 : w5.drew.cell? ⟨wr.heap.size, 0, none⟩ = some (.int .i64 a) := cell_rowK (k := 0) hz5 rfl
    have y1 : w5.drew.cell? ⟨wr.heap.size, 1, none⟩ = some (.int .i8 k) := cell_rowK (k := 1) hz5 rfl
    have y2 : w5.drew.cell? ⟨wr.heap.size, 2, none⟩ = some (.string p) := cell_rowK (k := 2) hz5 rfl
    have y3 : w5.drew.cell? ⟨c, 1, none⟩ = some (.map (some b)) := cell_rowK (k := 1) hbr5.cells rfl
    clear h5 hvl hbr5 hwr4 hz5 hmem ho6 hbr6
    go_region_with (fail)
    all_goals (
      clear y0 y1 y2 y3
      go_wp2
      go_roundw
      case measure => simp [intOf]; omega
      case rel =>
        refine ⟨x + 1, rfl, by omega, by omega, Lib.hid ?_⟩
        rw [show (x + 1).toNat = x.toNat + 1 by omega]
        have h8 := HN6.out
        rw [List.map_take] at h8
        exact h8)
  · have q2 : decide (x < (N : Int)) = false := decide_eq_false c2
    have hxN : x.toNat = P.length := by rw [HN.out]; omega
    have HF := HT.out
    rw [hxN] at HF
    have HF := Lib.hid HF
    clear HT hxN
    go_wp2
    go_ret
    have e1 : P.take P.length = P := List.take_length
    refine ⟨_, rfl, ?_, ?_, HF.out.old⟩
    · have h1 := HF.out.row
      rw [e1] at h1
      exact own_lower h1 hsz1
    · have h1 := HF.out.brd
      rw [e1, List.drop_length, List.append_nil] at h1
      exact h1
end Go.Proofs.YtkhnjckkjdldbaaGreatDoor.Q
