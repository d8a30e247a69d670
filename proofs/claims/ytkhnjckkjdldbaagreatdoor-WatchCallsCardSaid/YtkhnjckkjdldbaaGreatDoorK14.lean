import Derived.Test.YtkhnjckkjdldbaaGreatDoorK13
import Derived.Test.YtkhnjckkjdldbaaGreatDoorKc
namespace Go.Proofs.YtkhnjckkjdldbaaGreatDoor.Q
open Go.RowKit Go.Proofs.YtkhnjckkjdldbaaGreatDoorW.PrintWords Go.Deep Go.Maps Go.WideShapes
open Go.Proofs.YtkhnjckkjdldbaaGreatDoor.Pr (S57 S59 z57 k57 k59)
open Go.Proofs.YtkhnjckkjdldbaaGreatDoor.Bag (AppTo wpList_app own_lower)
set_option linter.unusedVariables false
set_option linter.unusedSimpArgs false
attribute [local go_sem] Oper.semAt_some
/-! FIRE (printed by mkfire.py) -/
abbrev encF (k : Int) (p : ByteArray) (x : S57) : List Value := [.int .i64 x.f0, .int .i8 x.f1, .string x.f2, .int .i8 k, .string p]
noncomputable def outB (k : Int) (p : ByteArray) (q : S57 × Int) : Bool := metB k p q.1 && goesB q.1
noncomputable def toldB (k : Int) (p : ByteArray) (P : WN) : List S57 := if changeB k p = true then (P.map Prod.fst).filter (metB k p) else []
noncomputable def leftB (k : Int) (p : ByteArray) (P : WN) : WN := if changeB k p = true then P.filter (fun q => !outB k p q) else P
theorem metB_1 (k : Int) (p q : ByteArray) (a : Int) : metB k p ⟨a, 1, q⟩ = ((p.toList == q.toList) && (k != 4)) := by unfold metB; exact if_pos rfl
theorem metB_2 (k : Int) (p q : ByteArray) (a : Int) : metB k p ⟨a, 2, q⟩ = ((p.toList == q.toList) && ((k == 4) || (k == 2))) := by
  unfold metB
  exact (if_neg (show ¬ (2 : Int) = 1 by decide)).trans (if_pos rfl)
theorem metB_3 (k : Int) (p q : ByteArray) (a : Int) : metB k p ⟨a, 3, q⟩ = (p.toList == q.toList) := by
  unfold metB
  exact (if_neg (show ¬ (3 : Int) = 1 by decide)).trans ((if_neg (show ¬ (3 : Int) = 2 by decide)).trans (if_pos rfl))
theorem metB_4 (k : Int) (p q : ByteArray) (a : Int) : metB k p ⟨a, 4, q⟩ = ((k != 4) && ((p.toList == q.toList) || belowP p q)) := by
  unfold metB
  exact (if_neg (show ¬ (4 : Int) = 1 by decide)).trans ((if_neg (show ¬ (4 : Int) = 2 by decide)).trans (if_neg (show ¬ (4 : Int) = 3 by decide)))
structure FireI (c b bc base0 base1 : Nat) (came : Int) (P : WN) (k : Int) (p : ByteArray) (vA : Value) (w : World) (i : Nat) (vl : Value) (W : World) : Prop where
  brd : Brd c b came ((P.take i).filter (fun q => !outB k p q) ++ P.drop i) W
  all : W.ownsRow base0 57 3 vA P.length ((P.map Prod.fst).flatMap encW)
  row : W.ownsRow base1 77 5 vl (((P.take i).map Prod.fst).filter (metB k p)).length ((((P.take i).map Prod.fst).filter (metB k p)).flatMap (encF k p))
  old : Only (fun k => k = b) w W
  big : base1 ≤ W.heap.size
  box : W.heap[bc]? = some (.cells #[.int .i8 k, .string p] 59 (0, 0))
theorem FireI.below {c b bc base0 base1 : Nat} {came : Int} {P : WN} {k : Int} {p : ByteArray} {vA : Value} {w : World} {i : Nat} {vl : Value} {W W' : World} (h : FireI c b bc base0 base1 came P k p vA w i vl W) (hB : Below W.heap.size W W') : FireI c b bc base0 base1 came P k p vA w i vl W' :=
  ⟨h.brd.below hB, own_move h.all fun k hk => hB.block k (World.ownsRow.lt h.all k hk).2, own_move h.row fun k hk => hB.block k (World.ownsRow.lt h.row k hk).2, h.old.then_below hB, Nat.le_trans h.big hB.size, blkK h.box hB⟩
/-- one that the change does not meet -/
theorem FireI.stay {c b bc base0 base1 : Nat} {came : Int} {P : WN} {k : Int} {p : ByteArray} {vA : Value} {w : World} {i : Nat} {vl : Value} {W : World} (h : FireI c b bc base0 base1 came P k p vA w i vl W) (hi : i < P.length) (hq : metB k p P[i].1 = false) : FireI c b bc base0 base1 came P k p vA w (i + 1) vl W := by
  have hq2 : outB k p P[i] = false := by unfold outB; rw [hq]; rfl
  have e1 : (P.take (i + 1)).filter (fun q => !outB k p q) ++ P.drop (i + 1) = (P.take i).filter (fun q => !outB k p q) ++ P.drop i := by
    rw [take_next hi, List.filter_append, List.drop_eq_getElem_cons hi]
    simp [hq2]
  have e2 : ((P.take (i + 1)).map Prod.fst).filter (metB k p) = ((P.take i).map Prod.fst).filter (metB k p) := by
    rw [take_next hi, List.map_append, List.filter_append]
    simp [hq]
  exact ⟨by rw [e1]; exact h.brd, h.all, by rw [e2]; exact h.row, h.old, h.big, h.box⟩
theorem told_next {P : WN} {i : Nat} {k : Int} {p : ByteArray} (hi : i < P.length) (hq : metB k p P[i].1 = true) : ((P.take (i + 1)).map Prod.fst).filter (metB k p) = ((P.take i).map Prod.fst).filter (metB k p) ++ [P[i].1] := by
  rw [take_next hi, List.map_append, List.filter_append]
  simp [hq]
theorem told_enc {l : List S57} {x : S57} {k : Int} {p : ByteArray} : (l ++ [x]).flatMap (encF k p) = l.flatMap (encF k p) ++ encF k p x := by rw [List.flatMap_append]; simp
/-- one that is told and stays -/
theorem FireI.told {c b bc base0 base1 : Nat} {came : Int} {P : WN} {k : Int} {p : ByteArray} {vA : Value} {w : World} {i : Nat} {vl : Value} {W W4 W5 : World} {g cap : Nat} (h : FireI c b bc base0 base1 came P k p vA w i vl W) (hi : i < P.length) (hq : metB k p P[i].1 = true) (hg : goesB P[i].1 = false)
    (hB : Below W.heap.size W W4) (hown : W5.ownsRow base1 77 5 (.slice (some ⟨g, 0, none⟩) ((((P.take i).map Prod.fst).filter (metB k p)).length + 1) cap) ((((P.take i).map Prod.fst).filter (metB k p)).length + 1) ((((P.take i).map Prod.fst).filter (metB k p)).flatMap (encF k p) ++ encF k p P[i].1))
    (hA : AppTo W4 W5 vl (((P.take i).map Prod.fst).filter (metB k p)).length g cap) (hbb : b < base0) (hcb : c < base0) (hbc : bc < base0) (h0 : w.heap.size ≤ base0) (h01 : base0 ≤ base1) (hvA : ∀ k, vA.ownBlock = some k → k < base1) :
    FireI c b bc base0 base1 came P k p vA w (i + 1) (.slice (some ⟨g, 0, none⟩) ((((P.take i).map Prod.fst).filter (metB k p)).length + 1) cap) W5 := by
  have h4 := h.below hB
  have hvl : ∀ k, vl.ownBlock = some k → base1 ≤ k := fun k hk => (World.ownsRow.lt h.row k hk).1
  have hq2 : outB k p P[i] = false := by unfold outB; rw [hg]; exact Bool.and_false _
  have e1 : (P.take (i + 1)).filter (fun q => !outB k p q) ++ P.drop (i + 1) = (P.take i).filter (fun q => !outB k p q) ++ P.drop i := by
    rw [take_next hi, List.filter_append, List.drop_eq_getElem_cons hi]
    simp [hq2]
  have e4 : (((P.take i).map Prod.fst).filter (metB k p) ++ [P[i].1]).length = (((P.take i).map Prod.fst).filter (metB k p)).length + 1 := by simp
  have hbox : bc < W4.heap.size := (Array.getElem?_eq_some_iff.1 h4.box).1
  refine ⟨by rw [e1]; exact h4.brd.appT hA (fun k hk => by have h6 := hvl k hk; omega), own_appT h4.all hA (fun k hk e => by have h5 := hvl k e; have h6 := hvA k hk; omega), by rw [told_next hi hq, told_enc, e4]; exact hown, only_appT h4.old hA (fun k hk => by have h5 := hvl k hk; omega), ?_, ?_⟩
  · rcases hA with ⟨_, h2⟩ | ⟨_, h2⟩
    · exact Nat.le_trans h4.big h2.size
    · exact Nat.le_trans h4.big h2.size
  · rcases hA with ⟨h1, h2⟩ | ⟨_, h2⟩
    · exact (h2.block _ hbox (fun e => by have h5 := hvl g (congrArg Value.ownBlock h1); have h6 := Option.some.inj e; omega)).trans h4.box
    · exact (h2.block _ hbox (by simp)).trans h4.box
/-- one that is told and goes -/
theorem FireI.gone {c b bc base0 base1 : Nat} {came : Int} {P : WN} {k : Int} {p : ByteArray} {vA : Value} {w : World} {i : Nat} {vl : Value} {W W4 W5 W6 : World} {g cap : Nat} (h : FireI c b bc base0 base1 came P k p vA w i vl W) (hi : i < P.length) (hq : metB k p P[i].1 = true) (hg : goesB P[i].1 = true)
    (hB : Below W.heap.size W W4) (hown : W5.ownsRow base1 77 5 (.slice (some ⟨g, 0, none⟩) ((((P.take i).map Prod.fst).filter (metB k p)).length + 1) cap) ((((P.take i).map Prod.fst).filter (metB k p)).length + 1) ((((P.take i).map Prod.fst).filter (metB k p)).flatMap (encF k p) ++ encF k p P[i].1))
    (hA : AppTo W4 W5 vl (((P.take i).map Prod.fst).filter (metB k p)).length g cap) (hbb : b < w.heap.size) (hcb : c < base0) (hbc : bc < base0) (hbw : w.heap.size ≤ bc) (h0 : w.heap.size ≤ base0) (h01 : base0 ≤ base1) (hvA : ∀ k, vA.ownBlock = some k → k < base1)
    (ho : Only (fun k => k = b) W5 W6) (hbr : Brd c b came (((P.take i).filter (fun q => !outB k p q) ++ P.drop i).filter (keepB P[i].1)) W6) (hnd : P.Pairwise (fun p q => p.1 ≠ q.1)) :
    FireI c b bc base0 base1 came P k p vA w (i + 1) (.slice (some ⟨g, 0, none⟩) ((((P.take i).map Prod.fst).filter (metB k p)).length + 1) cap) W6 := by
  have h4 := h.below hB
  have hvl : ∀ k, vl.ownBlock = some k → base1 ≤ k := fun k hk => (World.ownsRow.lt h.row k hk).1
  have hq2 : outB k p P[i] = true := by unfold outB; rw [hq, hg]; rfl
  have e1 : ((P.take i).filter (fun q => !outB k p q) ++ P.drop i).filter (keepB P[i].1) = (P.take (i + 1)).filter (fun q => !outB k p q) ++ P.drop (i + 1) := by
    have hsp : P = P.take i ++ P[i] :: P.drop (i + 1) := by rw [← List.drop_eq_getElem_cons hi, List.take_append_drop]
    rw [hsp, List.pairwise_append] at hnd
    obtain ⟨_, n2, n3⟩ := hnd
    rw [List.pairwise_cons] at n2
    rw [List.filter_append, List.drop_eq_getElem_cons hi, take_next hi, List.filter_append]
    have f1 : ((P.take i).filter (fun q => !outB k p q)).filter (keepB P[i].1) = (P.take i).filter (fun q => !outB k p q) :=
      List.filter_eq_self.2 fun p hp => keepB_iff.2 (n3 p (List.mem_filter.1 hp).1 P[i] List.mem_cons_self)
    have f2 : (P[i] :: P.drop (i + 1)).filter (keepB P[i].1) = P.drop (i + 1) := by
      rw [List.filter_cons_of_neg (by rw [keepB_iff]; simp)]
      exact List.filter_eq_self.2 fun p hp => keepB_iff.2 (n2.1 p hp).symm
    rw [f1, f2]
    simp [hq2]
  have e4 : (((P.take i).map Prod.fst).filter (metB k p) ++ [P[i].1]).length = (((P.take i).map Prod.fst).filter (metB k p)).length + 1 := by simp
  have hbox : bc < W4.heap.size := (Array.getElem?_eq_some_iff.1 h4.box).1
  have hbox5 : W5.heap[bc]? = some (.cells #[.int .i8 k, .string p] 59 (0, 0)) := by
    rcases hA with ⟨h1, h2⟩ | ⟨_, h2⟩
    · exact (h2.block _ hbox (fun e => by have h5 := hvl g (congrArg Value.ownBlock h1); have h6 := Option.some.inj e; omega)).trans h4.box
    · exact (h2.block _ hbox (by simp)).trans h4.box
  refine ⟨by rw [← e1]; exact hbr, ?_, ?_, ?_, ?_, ?_⟩
  · exact own_only (own_appT h4.all hA (fun k hk e => by have h5 := hvl k e; have h6 := hvA k hk; omega)) ho (fun k e => by omega)
  · rw [told_next hi hq, told_enc, e4]
    exact own_only hown ho (fun k e => by omega)
  · exact (only_appT h4.old hA (fun k hk => by have h5 := hvl k hk; omega)).trans ho (fun _ _ e => e)
  · have s5 : W4.heap.size ≤ W5.heap.size := by
      rcases hA with ⟨_, h2⟩ | ⟨_, h2⟩
      · exact h2.size
      · exact h2.size
    exact Nat.le_trans h4.big (Nat.le_trans s5 ho.size)
  · exact ho.blk hbox5 (fun e => by omega)
theorem fire_bad {c b : Nat} {came : Int} {P : WN} {w : World} (h : Brd c b came P w) (k : Int) (p : ByteArray) (hk : changeB k p = false) (hs : p.size ≤ 2147483648) (hT : Tabs w) :
    Calls Tryz.prog 18 #[.pointer (some ⟨c, 0, none⟩), .agg #[.int .i8 k, .string p]] w fun e w' => e = .returned (.slice none 0 0) ∧ Below w.heap.size w w' := by
  obtain ⟨W1, hW1⟩ : ∃ V, w.alloc (.cells #[.int .i8 k, .string p] 59) = V := ⟨_, rfl⟩
  have hB1 : Below w.heap.size w W1 := by rw [← hW1]; exact below_alloc (Below.refl _ _) _
  have hbr := h.below hB1
  have K1 := Lib.hid (none_brd hbr)
  have KP := isPath_calls p W1 hs (tabs_from hT hB1)
  have HB1 := Lib.hid hB1
  have HW := Lib.hid hW1
  have hz : W1.heap[w.heap.size]? = some (.cells #[.int .i8 k, .string p] 59 (0, 0)) := by rw [← hW1]; exact World.alloc_heap_new w _
  have x0 := cell_rowK (k := 0) (v := .int .i8 k) hz rfl
  have x1 := cell_rowK (k := 1) (v := .string p) hz rfl
  rw [← hW1] at x0 x1
  by_cases h1 : k < 1
  · have q1 : decide (k < 1) = true := decide_eq_true h1
    clear h hB1 hbr hT KP hW1 hk hz
    go_enter Tryz.func18, Tryz.ntmps18
    go_wp2_with fail
    go_step3
    go_wp2_with fail
    rw [HW.out] at x0 x1 ⊢
    refine K1.out.mono ?_
    rintro e w1 ⟨rfl, rfl⟩
    clear K1
    go_wp2
    rw [Exit.noGoto_ret]
    go_ret
    exact ⟨rfl, HB1.out⟩
  have q1 : decide (k < 1) = false := decide_eq_false h1
  by_cases h2 : 4 < k
  · have q2 : decide (4 < k) = true := decide_eq_true h2
    clear h hB1 hbr hT KP hW1 hk hz
    go_enter Tryz.func18, Tryz.ntmps18
    go_wp2_with fail
    go_step3
    go_wp2_with fail
    rw [HW.out] at x0 x1 ⊢
    refine K1.out.mono ?_
    rintro e w1 ⟨rfl, rfl⟩
    clear K1
    go_wp2
    rw [Exit.noGoto_ret]
    go_ret
    exact ⟨rfl, HB1.out⟩
  have q2 : decide (4 < k) = false := decide_eq_false h2
  have hp : isPathB p = false := by
    unfold changeB at hk
    rw [decide_eq_true (show 1 ≤ k ∧ k ≤ 4 by omega), Bool.true_and] at hk
    exact hk
  rw [hp] at KP
  have KP := Lib.hid KP
  clear h hB1 hbr hT hW1 hk hz hp
  go_enter Tryz.func18, Tryz.ntmps18
  go_wp2_with fail
  go_step3
  go_wp2_with fail
  rw [HW.out] at x0 x1 ⊢
  refine K1.out.mono ?_
  rintro e w1 ⟨rfl, rfl⟩
  clear K1
  go_wp2_with fail
  refine KP.out.mono ?_
  rintro e w2 ⟨rfl, hB⟩
  have HB2 := Lib.hid (below_step HB1.out hB)
  clear hB KP x0 x1
  go_wp2
  rw [Exit.noGoto_ret]
  go_ret
  exact ⟨rfl, HB2.out⟩
set_option maxRecDepth 100000 in
set_option maxHeartbeats 16000000 in
theorem fire_good {c b : Nat} {came : Int} {P : WN} {w : World} (h : Brd c b came P w) (hc : came < 4611686018427387904) (hr : ∀ q ∈ P, rightB q.1 = true) (k : Int) (p : ByteArray) (hch : changeB k p = true) (hs : p.size ≤ 2147483648) (hT : ∀ W, Only (fun k => k = b) w W → Tabs W) :
    Calls Tryz.prog 18 #[.pointer (some ⟨c, 0, none⟩), .agg #[.int .i8 k, .string p]] w fun e w' => ∃ v, e = .returned v ∧ w'.ownsRow w.heap.size 77 5 v ((P.map Prod.fst).filter (metB k p)).length (((P.map Prod.fst).filter (metB k p)).flatMap (encF k p)) ∧ Brd c b came (P.filter fun q => !outB k p q) w' ∧ Only (fun k => k = b) w w' := by
  obtain ⟨hk1, hk4, hp⟩ : 1 ≤ k ∧ k ≤ 4 ∧ isPathB p = true := by
    unfold changeB at hch
    simp only [Bool.and_eq_true, decide_eq_true_eq] at hch
    exact ⟨hch.1.1, hch.1.2, hch.2⟩
  obtain ⟨W1, hW1⟩ : ∃ V, w.alloc (.cells #[.int .i8 k, .string p] 59) = V := ⟨_, rfl⟩
  have hB1 : Below w.heap.size w W1 := by rw [← hW1]; exact below_alloc (Below.refl _ _) _
  have hz : W1.heap[w.heap.size]? = some (.cells #[.int .i8 k, .string p] 59 (0, 0)) := by rw [← hW1]; exact World.alloc_heap_new w _
  have x0 := cell_rowK (k := 0) (v := .int .i8 k) hz rfl
  have x1 := cell_rowK (k := 1) (v := .string p) hz rfl
  have hbr := h.below hB1
  have K1 := Lib.hid (none_brd hbr)
  have KP := isPath_calls p W1 hs (tabs_from (hT w (Only.refl _ _)) hB1)
  rw [hp] at KP
  have KP := Lib.hid KP
  have hbb : b < w.heap.size := by obtain ⟨D, h1, _⟩ := h.map; exact h1.lt
  have hcb : c < w.heap.size := (Array.getElem?_eq_some_iff.1 h.cells).1
  have hnd : P.Pairwise (fun p q => p.1 ≠ q.1) := by obtain ⟨D, _, h2⟩ := h.map; exact h2.nodup
  have hwf : ∀ p ∈ P, wfW p.1 := by obtain ⟨D, _, h2⟩ := h.map; exact h2.wf
  have HND := Lib.hid (And.intro hnd (And.intro hwf hr))
  obtain ⟨N, hN⟩ : ∃ n, P.length = n := ⟨_, rfl⟩
  have hN64 : N ≤ 64 := by rw [← hN]; exact h.few
  have HN := Lib.hid hN
  have HBR := Lib.hid hbr
  have HB1 := Lib.hid hB1
  have HW := Lib.hid hW1
  have HT5 := Lib.hid hT
  have HZ := Lib.hid hz
  have q1 : decide (k < 1) = false := decide_eq_false (by omega)
  have q2 : decide (4 < k) = false := decide_eq_false (by omega)
  obtain ⟨iF, hi, hz0, hz1, hz2⟩ := info_parts infoF
  have HI := Lib.hid (And.intro hi (And.intro hz0 (And.intro hz1 hz2)))
  rw [← hW1] at x0 x1
  clear h hB1 hz hbr hW1 hT hnd hwf hN hr hch hp hi hz0 hz1 hz2
  go_enter Tryz.func18, Tryz.ntmps18
  go_wp2_with fail
  go_step3
  go_wp2_with fail
  rw [HW.out] at x0 x1 ⊢
  refine K1.out.mono ?_
  rintro e w1 ⟨rfl, rfl⟩
  clear K1
  go_wp2_with fail
  refine KP.out.mono ?_
  rintro e w2 ⟨rfl, hB⟩
  have HB2 := Lib.hid (below_step HB1.out hB)
  have HBR2 := Lib.hid (HBR.out.below hB)
  have HZ2 := Lib.hid (blkK HZ.out hB)
  have hsz2 : w.heap.size < w2.heap.size := (Array.getElem?_eq_some_iff.1 HZ2.out).1
  have KA := Lib.hid (all_calls HBR2.out hc)
  clear hB KP x0 x1 q1 q2
  go_wp2_with fail
  refine wp_label ?_
  go_wp2_with fail
  refine KA.out.mono ?_
  rintro e w3 ⟨vA, rfl, hown, hB⟩
  have hsz3 : w2.heap.size ≤ w3.heap.size := hB.size
  have hlt1 : ∀ k, vA.ownBlock = some k → k < w3.heap.size := fun k hk => (World.ownsRow.lt hown k hk).2
  have hI0 : FireI c b w.heap.size w2.heap.size w3.heap.size came P k p vA w 0 (.slice none 0 0) w3 := ⟨by simpa using HBR2.out.below hB, hown, World.ownsRow_nil _ _ _ _, Only.of_below (below_step HB2.out hB), Nat.le_refl _, blkK HZ2.out hB⟩
  obtain ⟨A, capA, hvA, hAg⟩ : ∃ A cap, vA = .slice A P.length cap ∧ (0 < P.length → ∃ g, A = some ⟨g, 0, none⟩) ∧ P.length ≤ cap := by
    rcases hown.2 with ⟨h1, h2⟩ | ⟨g, cap, cur, h1, _, _, h2, _⟩
    · exact ⟨none, 0, by rw [h1, h2], fun h => by omega, by omega⟩
    · exact ⟨_, cap, h1, fun _ => ⟨g, rfl⟩, h2⟩
  subst hvA
  have HI0 := Lib.hid hI0
  have HA1 := Lib.hid (And.intro hlt1 hAg)
  rw [HN.out] at hAg ⊢
  have hcapA := hAg.2
  clear hown hB hI0 hlt1 hAg KA
  go_wp2_with fail
  go_loopw [5, 31] (fun vl vi wr => ∃ x : Int, vi = .int .i64 x ∧ 0 ≤ x ∧ x ≤ (N : Int) ∧ Hid (FireI c b w.heap.size w2.heap.size w3.heap.size came P k p (.slice A P.length capA) w x.toNat vl wr)) (fun _ vi _ => ((N : Int) - intOf vi).toNat)
  case atStart => exact ⟨0, rfl, by omega, by omega, HI0⟩
  case round =>
  clear HI0
  obtain ⟨x, rfl, x0, xn, HF⟩ := hrel
  by_cases c2 : x < (N : Int)
  · have q2 : decide (x < (N : Int)) = true := decide_eq_true c2
    have hx : x.toNat < P.length := by rw [HN.out]; omega
    obtain ⟨g, rfl⟩ := HA1.out.2.1 (by omega)
    obtain ⟨y, hy⟩ : ∃ y, P[x.toNat].1 = y := ⟨_, rfl⟩
    have hcell : ∀ j, j < 3 → wr.cell? ⟨g, x.toNat * 3 + j, none⟩ = (encW y)[j]? := fun j hj => by
      have h1 := World.ownsRow.cellAt HF.out.all (x.toNat * 3 + j) (by omega)
      rw [h1, flat_getK (k := 3) (fun _ => rfl) (P.map Prod.fst) x.toNat (by simpa using hx) j hj, List.getElem_map, hy]
    have hry : rightB y = true := by rw [← hy]; exact HND.out.2.2 _ (List.getElem_mem _)
    have HY := Lib.hid hy
    obtain ⟨mm, hmm⟩ : ∃ v, metB k p y = v := ⟨_, rfl⟩
    obtain ⟨a, ky, q⟩ := y
    obtain ⟨hky, hqs⟩ : (1 ≤ ky ∧ ky ≤ 4) ∧ q.size ≤ 2147483648 := by
      unfold rightB kindB at hry
      simp only [Bool.and_eq_true, decide_eq_true_eq] at hry
      exact ⟨hry.1, by have := path_small hry.2; omega⟩
    have o0 : wr.cell? ⟨g, x.toNat * 3, none⟩ = some (.int .i64 a) := hcell 0 (by omega)
    have o1 : wr.cell? ⟨g, x.toNat * 3 + 1, none⟩ = some (.int .i8 ky) := hcell 1 (by omega)
    have o2 : wr.cell? ⟨g, x.toNat * 3 + 2, none⟩ = some (.string q) := hcell 2 (by omega)
    have x0' := eq_true x0
    have c2' := eq_true c2
    clear hcell hy hry
    have h14 : ky = 1 ∨ ky = 2 ∨ ky = 3 ∨ ky = 4 := by omega
    clear hky
    rcases h14 with rfl | rfl | rfl | rfl
    · have KM : ∀ W, Tabs W → Calls Tryz.prog 154 #[.agg #[.string q], .agg #[.int .i8 k, .string p]] W fun e w' => e = .returned (.bool mm) ∧ Below W.heap.size W w' := fun W hT => by
        have h1 := metData_calls q p k W
        rw [← metB_1 k p q a, hmm] at h1
        exact h1
      have KM := Lib.hid KM
      have HM := Lib.hid hmm
      obtain ⟨W2, hW2⟩ : ∃ V, wr.alloc (.cells #[.int .i64 a, .int .i8 1, .string q] 57) = V := ⟨_, rfl⟩
      have hB2 : Below wr.heap.size wr W2 := by rw [← hW2]; exact below_alloc (Below.refl _ _) _
      have hz : W2.heap[wr.heap.size]? = some (.cells #[.int .i64 a, .int .i8 1, .string q] 57 (0, 0)) := by rw [← hW2]; exact World.alloc_heap_new wr _
      have d0 := cell_rowK (k := 0) (v := .int .i64 a) hz rfl
      have d1 := cell_rowK (k := 1) (v := .int .i8 1) hz rfl
      have d2 := cell_rowK (k := 2) (v := .string q) hz rfl
      rw [← hW2] at d0 d1 d2
      have HVL := Lib.hid (fun k hk => (World.ownsRow.lt HF.out.row k hk).2)
      have HF2 := Lib.hid (HF.out.below hB2)
      have KW := waits_calls ⟨a, 1, q⟩ W2
      rw [show waitV ⟨a, 1, q⟩ = .iface 197 (.agg #[.string q]) from rfl, show kindB ⟨a, 1, q⟩ = true from rfl] at KW
      have KW := Lib.hid KW
      have HZ4 := Lib.hid hz
      have HW2 := Lib.hid hW2
      clear hB2 hz hW2 HF hmm
      go_wp2_with fail
      rw [HW2.out]
      refine KW.out.mono ?_
      rintro e w5 ⟨rfl, hB⟩
      have HF5 := Lib.hid (HF2.out.below hB)
      have HZ5 := Lib.hid (blkK HZ4.out hB)
      have e0 : w5.cell? ⟨w.heap.size, 0, none⟩ = some (.int .i8 k) := cell_rowK (k := 0) HF5.out.box rfl
      have e1 : w5.cell? ⟨w.heap.size, 1, none⟩ = some (.string p) := cell_rowK (k := 1) HF5.out.box rfl
      have KM5 := Lib.hid (KM.out w5 (HT5.out w5 HF5.out.old))
      clear hB KW d0 d1 d2 o0 o1 o2 HF2 KM
      go_wp2_with fail
      refine KM5.out.mono ?_
      rintro e w6 ⟨rfl, hB⟩
      have HF6 := Lib.hid (HF5.out.below hB)
      have HZ6 := Lib.hid (blkK HZ5.out hB)
      clear hB KM5 e0 e1 HF5
      cases mm with
      | false =>
        go_wp2
        go_roundw
        case measure => simp [intOf]; omega
        case rel =>
          refine ⟨x + 1, rfl, by omega, by omega, Lib.hid ?_⟩
          rw [show (x + 1).toNat = x.toNat + 1 by omega]
          exact HF6.out.stay hx (by rw [HY.out]; exact HM.out)
      | true =>
      have HM2 : Hid (metB k p P[x.toNat].1 = true) := Lib.hid (by rw [HY.out]; exact HM.out)
      have HG2 : Hid (goesB P[x.toNat].1 = true) := Lib.hid (by rw [HY.out]; rfl)
      have hn64 : (((P.take x.toNat).map Prod.fst).filter (metB k p)).length ≤ 64 := by
        have h1 := List.length_filter_le (metB k p) ((P.take x.toNat).map Prod.fst)
        rw [List.length_map, List.length_take] at h1
        have h2 := HN.out
        omega
      have HL64 := Lib.hid hn64
      obtain ⟨W4, hW4⟩ : ∃ V, w6.alloc (.cells #[.int .i64 a, .int .i8 1, .string q, .int .i8 k, .string p] 77) = V := ⟨_, rfl⟩
      have hB4 : Below w6.heap.size w6 W4 := by rw [← hW4]; exact below_alloc (Below.refl _ _) _
      have hz4 := World.alloc_heap_new w6 (.cells #[.int .i64 a, .int .i8 1, .string q, .int .i8 k, .string p] 77)
      rw [hW4] at hz4
      have HF4 := Lib.hid (HF6.out.below hB4)
      have HOW := Lib.hid HF4.out.row
      have HNW := Lib.hid (World.news_of_block hz4)
      have hbs : w3.heap.size ≤ W4.heap.size := HF4.out.big
      have HBS4 := Lib.hid hbs
      have HB4 := Lib.hid hB4
      have ho1 : ∀ u ∈ [Value.int .i64 a, Value.int .i8 1, Value.string q, Value.int .i8 k, Value.string p], u.oneCell' = true := by simp [Value.oneCell']
      have HO1 := Lib.hid ho1
      have HZ7 := Lib.hid (blkK HZ6.out hB4)
      rw [← hW4] at HOW HNW HBS4
      have HW4 := Lib.hid hW4
      have f0 := cell_rowK (k := 0) (v := .int .i64 a) HZ6.out rfl
      have f1 := cell_rowK (k := 1) (v := .int .i8 1) HZ6.out rfl
      have f2 := cell_rowK (k := 2) (v := .string q) HZ6.out rfl
      have g0 : w6.cell? ⟨w.heap.size, 0, none⟩ = some (.int .i8 k) := cell_rowK (k := 0) HF6.out.box rfl
      have g1 : w6.cell? ⟨w.heap.size, 1, none⟩ = some (.string p) := cell_rowK (k := 1) HF6.out.box rfl
      clear hB4 hz4 hbs ho1 hW4 hn64
      go_wp2_with (first | (at_builtin; refine wpList_app rfl (.tmp 44) (.tmp 48) 63 rfl 77 iF _ 5 56 Tryz.underlying63 HI.out.1 HI.out.2.1 HI.out.2.2.1 HI.out.2.2.2 rfl (by decide) w3.heap.size _ _ _ rfl HOW.out ⟨w6.heap.size, 0, none⟩ 1 [.int .i64 a, .int .i8 1, .string q, .int .i8 k, .string p] rfl rfl HNW.out HO1.out (by have := HL64.out; unfold maxLen; omega) (by have := HL64.out; omega) HBS4.out ?_; intro g7 cap7 w7 hown7 hA7; have H7 := Lib.hid (And.intro hown7 hA7); clear hown7 hA7 f0 f1 f2 g0 g1))
      have h7 := H7.out
      rw [HW4.out] at h7
      have hvl := fun k hk => (World.ownsRow.lt HF4.out.row k hk).1
      have hbr7 := HF4.out.brd.appT h7.2 (fun k hk => by have h6 := hvl k hk; omega)
      have hwr4 : wr.heap.size < W4.heap.size := (Array.getElem?_eq_some_iff.1 HZ7.out).1
      have hz7 : w7.heap[wr.heap.size]? = some (.cells #[.int .i64 a, .int .i8 1, .string q] 57 (0, 0)) := by
        rcases h7.2 with ⟨h6, h8⟩ | ⟨_, h8⟩
        · exact (h8.block _ hwr4 (fun e => by have h9 := HVL.out g7 (congrArg Value.ownBlock h6); have h10 := Option.some.inj e; omega)).trans HZ7.out
        · exact (h8.block _ hwr4 (by simp)).trans HZ7.out
      have hmem : ((⟨a, 1, q⟩ : S57), P[x.toNat].2) ∈ (P.take x.toNat).filter (fun q => !outB k p q) ++ P.drop x.toNat := by
        rw [List.drop_eq_getElem_cons hx]
        refine List.mem_append_right _ ?_
        rw [← HY.out]
        exact List.mem_cons_self
      obtain ⟨w8, hrun, ho8, hbr8⟩ := hbr7.drew.dropped hmem (keepB ⟨a, 1, q⟩) (fun _ _ => keepB_iff) 0
      rw [← HY.out] at hbr8
      have HN8 := Lib.hid (HF6.out.gone hx HM2.out HG2.out HB4.out (by have h8 := h7.1; rw [HY.out]; exact h8) h7.2 hbb (by omega) hsz2 (Nat.le_refl _) (by omega) hsz3 HA1.out.1 ((Only.refl (fun k => k = b) w7).drew.trans ho8 (fun _ _ e => e)) hbr8 HND.out.1)
      have y0 : w7.drew.cell? ⟨wr.heap.size, 0, none⟩ = some (.int .i64 a) := cell_rowK (k := 0) hz7 rfl
      have y1 : w7.drew.cell? ⟨wr.heap.size, 1, none⟩ = some (.int .i8 1) := cell_rowK (k := 1) hz7 rfl
      have y2 : w7.drew.cell? ⟨wr.heap.size, 2, none⟩ = some (.string q) := cell_rowK (k := 2) hz7 rfl
      have y3 : w7.drew.cell? ⟨c, 1, none⟩ = some (.map (some b)) := cell_rowK (k := 1) hbr7.cells rfl
      clear h7 hvl hbr7 hwr4 hz7 hmem ho8 hbr8
      refine (once_data q w7).mono ?_
      rintro e w9 ⟨rfl, rfl⟩
      go_wp2_with fail
      go_region_with (fail)
      all_goals (
        clear y0 y1 y2 y3
        go_wp2
        go_roundw
        case measure => simp [intOf]; omega
        case rel =>
          refine ⟨x + 1, rfl, by omega, by omega, Lib.hid ?_⟩
          rw [show (x + 1).toNat = x.toNat + 1 by omega]
          have h8 := HN8.out
          rw [List.map_take] at h8
          exact h8)
    · have KM : ∀ W, Tabs W → Calls Tryz.prog 156 #[.agg #[.string q], .agg #[.int .i8 k, .string p]] W fun e w' => e = .returned (.bool mm) ∧ Below W.heap.size W w' := fun W hT => by
        have h1 := metChild_calls q p k W
        rw [← metB_2 k p q a, hmm] at h1
        exact h1
      have KM := Lib.hid KM
      have HM := Lib.hid hmm
      obtain ⟨W2, hW2⟩ : ∃ V, wr.alloc (.cells #[.int .i64 a, .int .i8 2, .string q] 57) = V := ⟨_, rfl⟩
      have hB2 : Below wr.heap.size wr W2 := by rw [← hW2]; exact below_alloc (Below.refl _ _) _
      have hz : W2.heap[wr.heap.size]? = some (.cells #[.int .i64 a, .int .i8 2, .string q] 57 (0, 0)) := by rw [← hW2]; exact World.alloc_heap_new wr _
      have d0 := cell_rowK (k := 0) (v := .int .i64 a) hz rfl
      have d1 := cell_rowK (k := 1) (v := .int .i8 2) hz rfl
      have d2 := cell_rowK (k := 2) (v := .string q) hz rfl
      rw [← hW2] at d0 d1 d2
      have HVL := Lib.hid (fun k hk => (World.ownsRow.lt HF.out.row k hk).2)
      have HF2 := Lib.hid (HF.out.below hB2)
      have KW := waits_calls ⟨a, 2, q⟩ W2
      rw [show waitV ⟨a, 2, q⟩ = .iface 198 (.agg #[.string q]) from rfl, show kindB ⟨a, 2, q⟩ = true from rfl] at KW
      have KW := Lib.hid KW
      have HZ4 := Lib.hid hz
      have HW2 := Lib.hid hW2
      clear hB2 hz hW2 HF hmm
      go_wp2_with fail
      rw [HW2.out]
      refine KW.out.mono ?_
      rintro e w5 ⟨rfl, hB⟩
      have HF5 := Lib.hid (HF2.out.below hB)
      have HZ5 := Lib.hid (blkK HZ4.out hB)
      have e0 : w5.cell? ⟨w.heap.size, 0, none⟩ = some (.int .i8 k) := cell_rowK (k := 0) HF5.out.box rfl
      have e1 : w5.cell? ⟨w.heap.size, 1, none⟩ = some (.string p) := cell_rowK (k := 1) HF5.out.box rfl
      have KM5 := Lib.hid (KM.out w5 (HT5.out w5 HF5.out.old))
      clear hB KW d0 d1 d2 o0 o1 o2 HF2 KM
      go_wp2_with fail
      refine KM5.out.mono ?_
      rintro e w6 ⟨rfl, hB⟩
      have HF6 := Lib.hid (HF5.out.below hB)
      have HZ6 := Lib.hid (blkK HZ5.out hB)
      clear hB KM5 e0 e1 HF5
      cases mm with
      | false =>
        go_wp2
        go_roundw
        case measure => simp [intOf]; omega
        case rel =>
          refine ⟨x + 1, rfl, by omega, by omega, Lib.hid ?_⟩
          rw [show (x + 1).toNat = x.toNat + 1 by omega]
          exact HF6.out.stay hx (by rw [HY.out]; exact HM.out)
      | true =>
      have HM2 : Hid (metB k p P[x.toNat].1 = true) := Lib.hid (by rw [HY.out]; exact HM.out)
      have HG2 : Hid (goesB P[x.toNat].1 = true) := Lib.hid (by rw [HY.out]; rfl)
      have hn64 : (((P.take x.toNat).map Prod.fst).filter (metB k p)).length ≤ 64 := by
        have h1 := List.length_filter_le (metB k p) ((P.take x.toNat).map Prod.fst)
        rw [List.length_map, List.length_take] at h1
        have h2 := HN.out
        omega
      have HL64 := Lib.hid hn64
      obtain ⟨W4, hW4⟩ : ∃ V, w6.alloc (.cells #[.int .i64 a, .int .i8 2, .string q, .int .i8 k, .string p] 77) = V := ⟨_, rfl⟩
      have hB4 : Below w6.heap.size w6 W4 := by rw [← hW4]; exact below_alloc (Below.refl _ _) _
      have hz4 := World.alloc_heap_new w6 (.cells #[.int .i64 a, .int .i8 2, .string q, .int .i8 k, .string p] 77)
      rw [hW4] at hz4
      have HF4 := Lib.hid (HF6.out.below hB4)
      have HOW := Lib.hid HF4.out.row
      have HNW := Lib.hid (World.news_of_block hz4)
      have hbs : w3.heap.size ≤ W4.heap.size := HF4.out.big
      have HBS4 := Lib.hid hbs
      have HB4 := Lib.hid hB4
      have ho1 : ∀ u ∈ [Value.int .i64 a, Value.int .i8 2, Value.string q, Value.int .i8 k, Value.string p], u.oneCell' = true := by simp [Value.oneCell']
      have HO1 := Lib.hid ho1
      have HZ7 := Lib.hid (blkK HZ6.out hB4)
      rw [← hW4] at HOW HNW HBS4
      have HW4 := Lib.hid hW4
      have f0 := cell_rowK (k := 0) (v := .int .i64 a) HZ6.out rfl
      have f1 := cell_rowK (k := 1) (v := .int .i8 2) HZ6.out rfl
      have f2 := cell_rowK (k := 2) (v := .string q) HZ6.out rfl
      have g0 : w6.cell? ⟨w.heap.size, 0, none⟩ = some (.int .i8 k) := cell_rowK (k := 0) HF6.out.box rfl
      have g1 : w6.cell? ⟨w.heap.size, 1, none⟩ = some (.string p) := cell_rowK (k := 1) HF6.out.box rfl
      clear hB4 hz4 hbs ho1 hW4 hn64
      go_wp2_with (first | (at_builtin; refine wpList_app rfl (.tmp 44) (.tmp 48) 63 rfl 77 iF _ 5 56 Tryz.underlying63 HI.out.1 HI.out.2.1 HI.out.2.2.1 HI.out.2.2.2 rfl (by decide) w3.heap.size _ _ _ rfl HOW.out ⟨w6.heap.size, 0, none⟩ 1 [.int .i64 a, .int .i8 2, .string q, .int .i8 k, .string p] rfl rfl HNW.out HO1.out (by have := HL64.out; unfold maxLen; omega) (by have := HL64.out; omega) HBS4.out ?_; intro g7 cap7 w7 hown7 hA7; have H7 := Lib.hid (And.intro hown7 hA7); clear hown7 hA7 f0 f1 f2 g0 g1))
      have h7 := H7.out
      rw [HW4.out] at h7
      have hvl := fun k hk => (World.ownsRow.lt HF4.out.row k hk).1
      have hbr7 := HF4.out.brd.appT h7.2 (fun k hk => by have h6 := hvl k hk; omega)
      have hwr4 : wr.heap.size < W4.heap.size := (Array.getElem?_eq_some_iff.1 HZ7.out).1
      have hz7 : w7.heap[wr.heap.size]? = some (.cells #[.int .i64 a, .int .i8 2, .string q] 57 (0, 0)) := by
        rcases h7.2 with ⟨h6, h8⟩ | ⟨_, h8⟩
        · exact (h8.block _ hwr4 (fun e => by have h9 := HVL.out g7 (congrArg Value.ownBlock h6); have h10 := Option.some.inj e; omega)).trans HZ7.out
        · exact (h8.block _ hwr4 (by simp)).trans HZ7.out
      have hmem : ((⟨a, 2, q⟩ : S57), P[x.toNat].2) ∈ (P.take x.toNat).filter (fun q => !outB k p q) ++ P.drop x.toNat := by
        rw [List.drop_eq_getElem_cons hx]
        refine List.mem_append_right _ ?_
        rw [← HY.out]
        exact List.mem_cons_self
      obtain ⟨w8, hrun, ho8, hbr8⟩ := hbr7.drew.dropped hmem (keepB ⟨a, 2, q⟩) (fun _ _ => keepB_iff) 0
      rw [← HY.out] at hbr8
      have HN8 := Lib.hid (HF6.out.gone hx HM2.out HG2.out HB4.out (by have h8 := h7.1; rw [HY.out]; exact h8) h7.2 hbb (by omega) hsz2 (Nat.le_refl _) (by omega) hsz3 HA1.out.1 ((Only.refl (fun k => k = b) w7).drew.trans ho8 (fun _ _ e => e)) hbr8 HND.out.1)
      have y0 : w7.drew.cell? ⟨wr.heap.size, 0, none⟩ = some (.int .i64 a) := cell_rowK (k := 0) hz7 rfl
      have y1 : w7.drew.cell? ⟨wr.heap.size, 1, none⟩ = some (.int .i8 2) := cell_rowK (k := 1) hz7 rfl
      have y2 : w7.drew.cell? ⟨wr.heap.size, 2, none⟩ = some (.string q) := cell_rowK (k := 2) hz7 rfl
      have y3 : w7.drew.cell? ⟨c, 1, none⟩ = some (.map (some b)) := cell_rowK (k := 1) hbr7.cells rfl
      clear h7 hvl hbr7 hwr4 hz7 hmem ho8 hbr8
      refine (once_child q w7).mono ?_
      rintro e w9 ⟨rfl, rfl⟩
      go_wp2_with fail
      go_region_with (fail)
      all_goals (
        clear y0 y1 y2 y3
        go_wp2
        go_roundw
        case measure => simp [intOf]; omega
        case rel =>
          refine ⟨x + 1, rfl, by omega, by omega, Lib.hid ?_⟩
          rw [show (x + 1).toNat = x.toNat + 1 by omega]
          have h8 := HN8.out
          rw [List.map_take] at h8
          exact h8)
    · have KM : ∀ W, Tabs W → Calls Tryz.prog 157 #[.agg #[.string q], .agg #[.int .i8 k, .string p]] W fun e w' => e = .returned (.bool mm) ∧ Below W.heap.size W w' := fun W hT => by
        have h1 := metStay_calls q p k W
        rw [← metB_3 k p q a, hmm] at h1
        exact h1
      have KM := Lib.hid KM
      have HM := Lib.hid hmm
      obtain ⟨W2, hW2⟩ : ∃ V, wr.alloc (.cells #[.int .i64 a, .int .i8 3, .string q] 57) = V := ⟨_, rfl⟩
      have hB2 : Below wr.heap.size wr W2 := by rw [← hW2]; exact below_alloc (Below.refl _ _) _
      have hz : W2.heap[wr.heap.size]? = some (.cells #[.int .i64 a, .int .i8 3, .string q] 57 (0, 0)) := by rw [← hW2]; exact World.alloc_heap_new wr _
      have d0 := cell_rowK (k := 0) (v := .int .i64 a) hz rfl
      have d1 := cell_rowK (k := 1) (v := .int .i8 3) hz rfl
      have d2 := cell_rowK (k := 2) (v := .string q) hz rfl
      rw [← hW2] at d0 d1 d2
      have HVL := Lib.hid (fun k hk => (World.ownsRow.lt HF.out.row k hk).2)
      have HF2 := Lib.hid (HF.out.below hB2)
      have KW := waits_calls ⟨a, 3, q⟩ W2
      rw [show waitV ⟨a, 3, q⟩ = .iface 199 (.agg #[.string q]) from rfl, show kindB ⟨a, 3, q⟩ = true from rfl] at KW
      have KW := Lib.hid KW
      have HZ4 := Lib.hid hz
      have HW2 := Lib.hid hW2
      clear hB2 hz hW2 HF hmm
      go_wp2_with fail
      rw [HW2.out]
      refine KW.out.mono ?_
      rintro e w5 ⟨rfl, hB⟩
      have HF5 := Lib.hid (HF2.out.below hB)
      have HZ5 := Lib.hid (blkK HZ4.out hB)
      have e0 : w5.cell? ⟨w.heap.size, 0, none⟩ = some (.int .i8 k) := cell_rowK (k := 0) HF5.out.box rfl
      have e1 : w5.cell? ⟨w.heap.size, 1, none⟩ = some (.string p) := cell_rowK (k := 1) HF5.out.box rfl
      have KM5 := Lib.hid (KM.out w5 (HT5.out w5 HF5.out.old))
      clear hB KW d0 d1 d2 o0 o1 o2 HF2 KM
      go_wp2_with fail
      refine KM5.out.mono ?_
      rintro e w6 ⟨rfl, hB⟩
      have HF6 := Lib.hid (HF5.out.below hB)
      have HZ6 := Lib.hid (blkK HZ5.out hB)
      clear hB KM5 e0 e1 HF5
      cases mm with
      | false =>
        go_wp2
        go_roundw
        case measure => simp [intOf]; omega
        case rel =>
          refine ⟨x + 1, rfl, by omega, by omega, Lib.hid ?_⟩
          rw [show (x + 1).toNat = x.toNat + 1 by omega]
          exact HF6.out.stay hx (by rw [HY.out]; exact HM.out)
      | true =>
      have HM2 : Hid (metB k p P[x.toNat].1 = true) := Lib.hid (by rw [HY.out]; exact HM.out)
      have HG2 : Hid (goesB P[x.toNat].1 = false) := Lib.hid (by rw [HY.out]; rfl)
      have hn64 : (((P.take x.toNat).map Prod.fst).filter (metB k p)).length ≤ 64 := by
        have h1 := List.length_filter_le (metB k p) ((P.take x.toNat).map Prod.fst)
        rw [List.length_map, List.length_take] at h1
        have h2 := HN.out
        omega
      have HL64 := Lib.hid hn64
      obtain ⟨W4, hW4⟩ : ∃ V, w6.alloc (.cells #[.int .i64 a, .int .i8 3, .string q, .int .i8 k, .string p] 77) = V := ⟨_, rfl⟩
      have hB4 : Below w6.heap.size w6 W4 := by rw [← hW4]; exact below_alloc (Below.refl _ _) _
      have hz4 := World.alloc_heap_new w6 (.cells #[.int .i64 a, .int .i8 3, .string q, .int .i8 k, .string p] 77)
      rw [hW4] at hz4
      have HF4 := Lib.hid (HF6.out.below hB4)
      have HOW := Lib.hid HF4.out.row
      have HNW := Lib.hid (World.news_of_block hz4)
      have hbs : w3.heap.size ≤ W4.heap.size := HF4.out.big
      have HBS4 := Lib.hid hbs
      have HB4 := Lib.hid hB4
      have ho1 : ∀ u ∈ [Value.int .i64 a, Value.int .i8 3, Value.string q, Value.int .i8 k, Value.string p], u.oneCell' = true := by simp [Value.oneCell']
      have HO1 := Lib.hid ho1
      have HZ7 := Lib.hid (blkK HZ6.out hB4)
      rw [← hW4] at HOW HNW HBS4
      have HW4 := Lib.hid hW4
      have f0 := cell_rowK (k := 0) (v := .int .i64 a) HZ6.out rfl
      have f1 := cell_rowK (k := 1) (v := .int .i8 3) HZ6.out rfl
      have f2 := cell_rowK (k := 2) (v := .string q) HZ6.out rfl
      have g0 : w6.cell? ⟨w.heap.size, 0, none⟩ = some (.int .i8 k) := cell_rowK (k := 0) HF6.out.box rfl
      have g1 : w6.cell? ⟨w.heap.size, 1, none⟩ = some (.string p) := cell_rowK (k := 1) HF6.out.box rfl
      clear hB4 hz4 hbs ho1 hW4 hn64
      go_wp2_with (first | (at_builtin; refine wpList_app rfl (.tmp 44) (.tmp 48) 63 rfl 77 iF _ 5 56 Tryz.underlying63 HI.out.1 HI.out.2.1 HI.out.2.2.1 HI.out.2.2.2 rfl (by decide) w3.heap.size _ _ _ rfl HOW.out ⟨w6.heap.size, 0, none⟩ 1 [.int .i64 a, .int .i8 3, .string q, .int .i8 k, .string p] rfl rfl HNW.out HO1.out (by have := HL64.out; unfold maxLen; omega) (by have := HL64.out; omega) HBS4.out ?_; intro g7 cap7 w7 hown7 hA7; have H7 := Lib.hid (And.intro hown7 hA7); clear hown7 hA7 f0 f1 f2 g0 g1))
      have h7 := H7.out
      rw [HW4.out] at h7
      have HN8 := Lib.hid (HF6.out.told hx HM2.out HG2.out HB4.out (by have h8 := h7.1; rw [HY.out]; exact h8) h7.2 (by omega) (by omega) hsz2 (by omega) hsz3 HA1.out.1)
      clear h7
      refine (once_stay q w7).mono ?_
      rintro e w9 ⟨rfl, rfl⟩
      go_wp2
      go_roundw
      case measure => simp [intOf]; omega
      case rel =>
        refine ⟨x + 1, rfl, by omega, by omega, Lib.hid ?_⟩
        rw [show (x + 1).toNat = x.toNat + 1 by omega]
        have h8 := HN8.out
        rw [List.map_take] at h8
        exact h8
    · have KM : ∀ W, Tabs W → Calls Tryz.prog 158 #[.agg #[.string q], .agg #[.int .i8 k, .string p]] W fun e w' => e = .returned (.bool mm) ∧ Below W.heap.size W w' := fun W hT => by
        have h1 := metBelow_calls q p k W hs hqs hT
        rw [← metB_4 k p q a, hmm] at h1
        exact h1
      have KM := Lib.hid KM
      have HM := Lib.hid hmm
      obtain ⟨W2, hW2⟩ : ∃ V, wr.alloc (.cells #[.int .i64 a, .int .i8 4, .string q] 57) = V := ⟨_, rfl⟩
      have hB2 : Below wr.heap.size wr W2 := by rw [← hW2]; exact below_alloc (Below.refl _ _) _
      have hz : W2.heap[wr.heap.size]? = some (.cells #[.int .i64 a, .int .i8 4, .string q] 57 (0, 0)) := by rw [← hW2]; exact World.alloc_heap_new wr _
      have d0 := cell_rowK (k := 0) (v := .int .i64 a) hz rfl
      have d1 := cell_rowK (k := 1) (v := .int .i8 4) hz rfl
      have d2 := cell_rowK (k := 2) (v := .string q) hz rfl
      rw [← hW2] at d0 d1 d2
      have HVL := Lib.hid (fun k hk => (World.ownsRow.lt HF.out.row k hk).2)
      have HF2 := Lib.hid (HF.out.below hB2)
      have KW := waits_calls ⟨a, 4, q⟩ W2
      rw [show waitV ⟨a, 4, q⟩ = .iface 200 (.agg #[.string q]) from rfl, show kindB ⟨a, 4, q⟩ = true from rfl] at KW
      have KW := Lib.hid KW
      have HZ4 := Lib.hid hz
      have HW2 := Lib.hid hW2
      clear hB2 hz hW2 HF hmm
      go_wp2_with fail
      rw [HW2.out]
      refine KW.out.mono ?_
      rintro e w5 ⟨rfl, hB⟩
      have HF5 := Lib.hid (HF2.out.below hB)
      have HZ5 := Lib.hid (blkK HZ4.out hB)
      have e0 : w5.cell? ⟨w.heap.size, 0, none⟩ = some (.int .i8 k) := cell_rowK (k := 0) HF5.out.box rfl
      have e1 : w5.cell? ⟨w.heap.size, 1, none⟩ = some (.string p) := cell_rowK (k := 1) HF5.out.box rfl
      have KM5 := Lib.hid (KM.out w5 (HT5.out w5 HF5.out.old))
      clear hB KW d0 d1 d2 o0 o1 o2 HF2 KM
      go_wp2_with fail
      refine KM5.out.mono ?_
      rintro e w6 ⟨rfl, hB⟩
      have HF6 := Lib.hid (HF5.out.below hB)
      have HZ6 := Lib.hid (blkK HZ5.out hB)
      clear hB KM5 e0 e1 HF5
      cases mm with
      | false =>
        go_wp2
        go_roundw
        case measure => simp [intOf]; omega
        case rel =>
          refine ⟨x + 1, rfl, by omega, by omega, Lib.hid ?_⟩
          rw [show (x + 1).toNat = x.toNat + 1 by omega]
          exact HF6.out.stay hx (by rw [HY.out]; exact HM.out)
      | true =>
      have HM2 : Hid (metB k p P[x.toNat].1 = true) := Lib.hid (by rw [HY.out]; exact HM.out)
      have HG2 : Hid (goesB P[x.toNat].1 = false) := Lib.hid (by rw [HY.out]; rfl)
      have hn64 : (((P.take x.toNat).map Prod.fst).filter (metB k p)).length ≤ 64 := by
        have h1 := List.length_filter_le (metB k p) ((P.take x.toNat).map Prod.fst)
        rw [List.length_map, List.length_take] at h1
        have h2 := HN.out
        omega
      have HL64 := Lib.hid hn64
      obtain ⟨W4, hW4⟩ : ∃ V, w6.alloc (.cells #[.int .i64 a, .int .i8 4, .string q, .int .i8 k, .string p] 77) = V := ⟨_, rfl⟩
      have hB4 : Below w6.heap.size w6 W4 := by rw [← hW4]; exact below_alloc (Below.refl _ _) _
      have hz4 := World.alloc_heap_new w6 (.cells #[.int .i64 a, .int .i8 4, .string q, .int .i8 k, .string p] 77)
      rw [hW4] at hz4
      have HF4 := Lib.hid (HF6.out.below hB4)
      have HOW := Lib.hid HF4.out.row
      have HNW := Lib.hid (World.news_of_block hz4)
      have hbs : w3.heap.size ≤ W4.heap.size := HF4.out.big
      have HBS4 := Lib.hid hbs
      have HB4 := Lib.hid hB4
      have ho1 : ∀ u ∈ [Value.int .i64 a, Value.int .i8 4, Value.string q, Value.int .i8 k, Value.string p], u.oneCell' = true := by simp [Value.oneCell']
      have HO1 := Lib.hid ho1
      have HZ7 := Lib.hid (blkK HZ6.out hB4)
      rw [← hW4] at HOW HNW HBS4
      have HW4 := Lib.hid hW4
      have f0 := cell_rowK (k := 0) (v := .int .i64 a) HZ6.out rfl
      have f1 := cell_rowK (k := 1) (v := .int .i8 4) HZ6.out rfl
      have f2 := cell_rowK (k := 2) (v := .string q) HZ6.out rfl
      have g0 : w6.cell? ⟨w.heap.size, 0, none⟩ = some (.int .i8 k) := cell_rowK (k := 0) HF6.out.box rfl
      have g1 : w6.cell? ⟨w.heap.size, 1, none⟩ = some (.string p) := cell_rowK (k := 1) HF6.out.box rfl
      clear hB4 hz4 hbs ho1 hW4 hn64
      go_wp2_with (first | (at_builtin; refine wpList_app rfl (.tmp 44) (.tmp 48) 63 rfl 77 iF _ 5 56 Tryz.underlying63 HI.out.1 HI.out.2.1 HI.out.2.2.1 HI.out.2.2.2 rfl (by decide) w3.heap.size _ _ _ rfl HOW.out ⟨w6.heap.size, 0, none⟩ 1 [.int .i64 a, .int .i8 4, .string q, .int .i8 k, .string p] rfl rfl HNW.out HO1.out (by have := HL64.out; unfold maxLen; omega) (by have := HL64.out; omega) HBS4.out ?_; intro g7 cap7 w7 hown7 hA7; have H7 := Lib.hid (And.intro hown7 hA7); clear hown7 hA7 f0 f1 f2 g0 g1))
      have h7 := H7.out
      rw [HW4.out] at h7
      have HN8 := Lib.hid (HF6.out.told hx HM2.out HG2.out HB4.out (by have h8 := h7.1; rw [HY.out]; exact h8) h7.2 (by omega) (by omega) hsz2 (by omega) hsz3 HA1.out.1)
      clear h7
      refine (once_below q w7).mono ?_
      rintro e w9 ⟨rfl, rfl⟩
      go_wp2
      go_roundw
      case measure => simp [intOf]; omega
      case rel =>
        refine ⟨x + 1, rfl, by omega, by omega, Lib.hid ?_⟩
        rw [show (x + 1).toNat = x.toNat + 1 by omega]
        have h8 := HN8.out
        rw [List.map_take] at h8
        exact h8
  · have q2 : decide (x < (N : Int)) = false := decide_eq_false c2
    have hxN : x.toNat = P.length := by rw [HN.out]; omega
    have HE := HF.out
    rw [hxN] at HE
    have HE := Lib.hid HE
    clear HF hxN
    go_wp2
    go_ret
    have e1 : P.take P.length = P := List.take_length
    refine ⟨_, rfl, ?_, ?_, HE.out.old⟩
    · have h1 := HE.out.row
      rw [e1] at h1
      exact own_lower h1 (by omega)
    · have h1 := HE.out.brd
      rw [e1, List.drop_length, List.append_nil] at h1
      exact h1
theorem fire_calls {c b : Nat} {came : Int} {P : WN} {w : World} (h : Brd c b came P w) (hc : came < 4611686018427387904) (hr : ∀ q ∈ P, rightB q.1 = true) (k : Int) (p : ByteArray) (hs : p.size ≤ 2147483648) (hT : ∀ W, Only (fun k => k = b) w W → Tabs W) :
    Calls Tryz.prog 18 #[.pointer (some ⟨c, 0, none⟩), .agg #[.int .i8 k, .string p]] w fun e w' => ∃ v, e = .returned v ∧ w'.ownsRow w.heap.size 77 5 v (toldB k p P).length ((toldB k p P).flatMap (encF k p)) ∧ Brd c b came (leftB k p P) w' ∧ Only (fun k => k = b) w w' := by
  unfold toldB leftB
  cases hch : changeB k p with
  | true => exact fire_good h hc hr k p hch hs hT
  | false =>
    refine (fire_bad h k p hch hs (hT w (Only.refl _ _))).mono fun e w' ⟨h1, h2⟩ => ⟨_, h1, ?_, h.below h2, Only.of_below h2⟩
    exact World.ownsRow_nil _ _ _ _
end Go.Proofs.YtkhnjckkjdldbaaGreatDoor.Q
