import Derived.Test.YteajaakhdnlpeaaF
namespace Go.Proofs.Yteajaakhdnlpeaa.Q
open Go.RowKit Go.Shelf Go.Proofs.YteajaakhdnlpeaaW.PrintWords Go.Deep
set_option linter.unusedVariables false
set_option linter.unusedSimpArgs false
attribute [local go_sem] Oper.semAt_some

theorem res_cell {fn : Func} {p : Tmp} (h : fn.results = #[.cell p 4]) (tmps : Array Value) (w : World) (a : Addr) (v : Value) (hp : tmps.getD p undef = .pointer (some a)) (hc : w.cell? a = some v) :
    (results fn tmps).run Try.prog w = .ok v w := by
  have hp' : tmps[p]?.getD undef = .pointer (some a) := by simpa using hp
  simp [results, h, hp', asAddr, go_sem, hc, Try.underlying4, Result.andThen]
set_option maxRecDepth 100000 in
set_option maxHeartbeats 8000000 in
theorem all_long (m lv : Int) (cl : Bool) (A B : Option Addr) (ca cb : Nat) (l more : List Int) (w : World) (h1 : l.length ≤ 9223372036854775807) (h2 : more.length ≤ 9223372036854775807) (s : Int) (hs : IntKind.i64.wrap ((l.length : Int) + (more.length : Int)) = s) (h : 4194304 < s) :
    Calls Try.prog 5 #[.int .i64 m, .slice A l.length ca, .slice B more.length cb, .int .i64 lv, .bool cl] w fun e w' => e = .returned (.bool true) ∧ Below w.heap.size w w' := by
  refine (callsIn_wide (n := 3)).1 ?_
  refine callsIn_of_wp_marks Try.func5 rfl trivial ?_ rfl
  simp only [Try.ntmps5, List.size_toArray, List.length_cons, List.length_nil, Nat.reduceAdd, Nat.reduceSub, Array.replicate_succ, Array.replicate_zero, List.push_toArray, List.append_toArray, List.nil_append, List.cons_append]
  gi_wp2_with fail
  have bL := (Boxed.new w 3 (.int .i64 lv)).alloc (.cells #[.bool false] 4)
  have bR := Boxed.new (w.alloc (.cells #[.int .i64 lv] 3)) 4 (.bool false)
  have hB0 : Below w.heap.size w ((w.alloc (.cells #[.int .i64 lv] 3)).alloc (.cells #[.bool false] 4)) := below_alloc (below_alloc (Below.refl _ w) _) _
  obtain ⟨W0, hW0⟩ : ∃ W, (w.alloc (.cells #[.int .i64 lv] 3)).alloc (.cells #[.bool false] 4) = W := ⟨_, rfl⟩
  rw [World.size_alloc] at bR
  rw [hW0] at bL bR hB0 ⊢
  clear hW0
  refine ⟨trivial, (callsIn_wide.2 (works_calls W0)).mono ?_⟩
  rintro e w1 ⟨rfl, hB⟩
  have q := (bR : W0.heap[w.heap.size + 1]? = _)
  have bR1 : Boxed w1 (w.heap.size + 1) 4 (.bool false) := (hB.block _ bR.lt).trans bR
  have hB1 := Lib.hid (below_then hB0 hB0.size hB)
  have c0 := bR1.cell
  have z0 := bR1.frozen
  clear q bL bR hB0 hB
  gi_wp2_with fail
  exact ⟨.bool true, res_cell rfl _ _ _ _ rfl (World.cell?_setCell_same' _ _ _ (by rw [c0]; rfl)), rfl, hB1.out.setCell (p := ⟨w.heap.size + 1, 0, none⟩) (by simp) _⟩

set_option maxRecDepth 100000 in
set_option maxHeartbeats 8000000 in
theorem all_no (m lv : Int) (cl : Bool) (A B : Option Addr) (ca cb : Nat) (l more : List Int) (w : World) (h1 : l.length ≤ 9223372036854775807) (h2 : more.length ≤ 9223372036854775807) (s : Int) (hs : IntKind.i64.wrap ((l.length : Int) + (more.length : Int)) = s) (h : s ≤ 4194304) (hm : ¬ (0 ≤ m ∧ m ≤ 64)) :
    Calls Try.prog 5 #[.int .i64 m, .slice A l.length ca, .slice B more.length cb, .int .i64 lv, .bool cl] w fun e w' => e = .returned (.bool true) ∧ Below w.heap.size w w' := by
  have K := Lib.hid (fun W => newno_int m W hm)
  refine (callsIn_wide (n := 3)).1 ?_
  refine callsIn_of_wp_marks Try.func5 rfl trivial ?_ rfl
  simp only [Try.ntmps5, List.size_toArray, List.length_cons, List.length_nil, Nat.reduceAdd, Nat.reduceSub, Array.replicate_succ, Array.replicate_zero, List.push_toArray, List.append_toArray, List.nil_append, List.cons_append]
  gi_wp2_with fail
  have bR := Boxed.new (w.alloc (.cells #[.int .i64 lv] 3)) 4 (.bool false)
  have hB0 : Below w.heap.size w ((w.alloc (.cells #[.int .i64 lv] 3)).alloc (.cells #[.bool false] 4)) := below_alloc (below_alloc (Below.refl _ w) _) _
  obtain ⟨W0, hW0⟩ : ∃ W, (w.alloc (.cells #[.int .i64 lv] 3)).alloc (.cells #[.bool false] 4) = W := ⟨_, rfl⟩
  rw [World.size_alloc] at bR
  rw [hW0] at bR hB0 ⊢
  clear hW0
  refine ⟨trivial, (callsIn_wide.2 (works_calls W0)).mono ?_⟩
  rintro e w1 ⟨rfl, hB⟩
  have bR1 : Boxed w1 (w.heap.size + 1) 4 (.bool false) := (hB.block _ bR.lt).trans bR
  have hB1 := Lib.hid (below_then hB0 hB0.size hB)
  have c0 := bR1.cell
  have z0 := bR1.frozen
  clear bR hB0 hB bR1
  gi_wp2_with fail
  refine ⟨trivial, (callsIn_wide.2 (K.out w1)).mono ?_⟩
  rintro e w2 ⟨rfl, rfl⟩
  by_cases h0 : m < 0
  · gi_wp2_with fail
    exact ⟨.bool true, res_cell rfl _ _ _ _ rfl (World.cell?_setCell_same' _ _ _ (by rw [c0]; rfl)), rfl, hB1.out.setCell (p := ⟨w.heap.size + 1, 0, none⟩) (by simp) _⟩
  · have h9 : 64 < m := by omega
    gi_wp2_with fail
    exact ⟨.bool true, res_cell rfl _ _ _ _ rfl (World.cell?_setCell_same' _ _ _ (by rw [c0]; rfl)), rfl, hB1.out.setCell (p := ⟨w.heap.size + 1, 0, none⟩) (by simp) _⟩

/-- the law of a range over a function, its frame behind the assignment left open -/
theorem range_own {F : Fence} {n : Nat} {P : Program} {α : Type} {g : Operand} {ps : Array Tmp} {assign body : Code} {Q : Exit → Act → World → Prop} {a : Act} {w : World}
    (hro : F.round = none) (h1 : 1 ≤ n) {gf : Nat} {lb : Array Value} (hg : a.eval g = .func (.func gf) #[] lb) (hFg : F.fn gf) (eg : ∀ args w, (callFunc gf args).run P w = .ok (.enter gf args) w)
    {encs : α → Array Value} {Kp : World → World → Prop} {S Sp : List α → Prop} {N : Nat} {w0 : World} (hseq : SeqStopsK F (n - 1) P gf lb encs Kp S Sp N w0)
    (hKt : ∀ {A B C : World}, Kp A B → Kp B C → Kp A C) (hKb : ∀ (W : World) (l : Nat) (o o' : Obj), w.heap.size ≤ l → W.heap[l]? = some o → o.isCells = false → o.isWalk = false → Kp W (W.putObj l o')) (hb0 : Below w0.heap.size w0 w) (hps : ∀ x, (encs x).size = ps.size)
    (I : List α → World → Prop) (Ix : Code → List α → World → Prop) (hI : OwnFrom w.heap.size I) (hIx : ∀ c, OwnFrom w.heap.size (Ix c)) (h0 : I [] w)
    (hex : ∃ a₁ : α → Act,
      (∀ (l : Nat) (x : α) (W : World) (K : Act → World → Prop), K (a₁ x) W →
        assign.wpIn (F.inRound l) (n - 1 - 1) P (Exit.then K (fun _ _ _ => False)) { tmps := (ps.zip (encs x)).foldl (fun t (p, v) => t.setIfInBounds p v) a.tmps, defers := [] } W) ∧
      (∀ (l : Nat) (pre : List α) (x : α) (W : World), I pre W → pre.length < N → body.wpIn (F.inRound l) (n - 1 - 1) P (ownPostG w.heap.size Kp I Ix (pre ++ [x]) W) (a₁ x) W))
    (hdone : ∀ (D : Nat) (xs : List α) (W : World), w.heap.size ≤ D → S xs → I xs W → W.heap[D]? = some (.deferred (some [])) → Q .normal { a with defers := { target := .collected D, args := #[] } :: a.defers } W)
    (hstop : ∀ (D : Nat) (c : Code) (pre : List α) (W : World), w.heap.size ≤ D → Sp pre → Ix c pre W → W.heap[D]? = some (.deferred (some [])) → c.wpIn F n P Q { a with defers := { target := .collected D, args := #[] } :: a.defers } W) :
    (Code.rangeFunc g ps assign body).wpIn F n P Q a w := by
  obtain ⟨a₁, ha, hb⟩ := hex
  exact wpIn_rangeFunc_ownG hro h1 hg hFg eg hseq hKt hKb hb0 hps I Ix hI hIx h0 a₁ ha hb hdone hstop

/-- what lies while CacheAll goes on: the two boxes, the ring -/
structure Frm (w W : World) (lv : Int) (b m : Nat) (xs : List Value) : Prop where
  below : Below w.heap.size w W
  leave : Boxed W w.heap.size 3 (.int .i64 lv)
  res : Boxed W (w.heap.size + 1) 4 (.bool false)
  ring : RingI 83 W b m xs
  lb : w.heap.size + 1 < b
theorem Frm.only {w W W' : World} {lv : Int} {b m : Nat} {xs ys : List Value} (h : Frm w W lv b m xs) (hr : RingI 83 W' b m ys) (ho : Only (fun k => k = b) W W') : Frm w W' lv b m ys :=
  ⟨ho.from h.below (fun k hk => by have := h.lb; omega), (ho.block _ h.leave.lt (by have := h.lb; omega)).trans h.leave, (ho.block _ h.res.lt (by have := h.lb; omega)).trans h.res, hr, h.lb⟩
theorem Frm.to {w W W' : World} {lv : Int} {b m : Nat} {xs : List Value} (h : Frm w W lv b m xs) (hB : Below W.heap.size W W') : Frm w W' lv b m xs :=
  ⟨below_then h.below h.below.size hB, (hB.block _ h.leave.lt).trans h.leave, (hB.block _ h.res.lt).trans h.res, h.ring.below hB, h.lb⟩

end Go.Proofs.Yteajaakhdnlpeaa.Q
