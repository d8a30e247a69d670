import Derived.Test.YtkhnjckkjdldbaaGreatDoorG3
import Derived.Test.YtkhnjckkjdldbaaGreatDoorK15
namespace Go.Proofs.YtkhnjckkjdldbaaGreatDoor.Bag
open Go.RowKit Go.Proofs.YtkhnjckkjdldbaaGreatDoorW.PrintWords Go.Deep
open Go.Proofs.YtkhnjckkjdldbaaGreatDoor.Q (Only)
set_option linter.unusedVariables false
set_option linter.unusedSimpArgs false
/-! ROWS APART FROM EACH OTHER: WHAT BECOMES OF THEM -/
section
variable {α : Type} {enc : α → List Value} {size base : Nat} {e : TypeId}
theorem bagI_iff {W : World} {its : List (Item α)} : BagI enc size base e W its ↔ (∀ it ∈ its, Good enc size base e W it) ∧ its.Pairwise (fun a b => ∀ k, a.has k → ¬ b.has k) := by
  constructor
  · intro h
    refine ⟨fun it hi => ?_, ?_⟩
    · obtain ⟨j, hj, rfl⟩ := List.getElem_of_mem hi
      exact h.ok j hj
    · rw [List.pairwise_iff_getElem]
      exact fun i j hi hj hij k h1 h2 => h.apart i j hi hj (by omega) k h1 h2
  · rintro ⟨h1, h2⟩
    rw [List.pairwise_iff_getElem] at h2
    refine ⟨fun j hj => h1 _ (List.getElem_mem hj), fun j k hj hk hne b hb hb2 => ?_⟩
    by_cases hjk : j < k
    · exact h2 j k hj hk hjk b hb hb2
    · exact h2 k j hk hj (by omega) b hb2 hb
theorem BagI.sub {W : World} {its its' : List (Item α)} (h : BagI enc size base e W its) (hs : its'.Sublist its) : BagI enc size base e W its' := by
  rw [bagI_iff] at h ⊢
  exact ⟨fun it hi => h.1 it (hs.subset hi), h.2.sublist hs⟩
theorem Row.onlyN {S : Nat → Prop} {W W' : World} {v : Value} {xs : List α} (h : Row enc size base e W v xs) (ho : Only S W W') (hs : ∀ k, v.ownBlock = some k → ¬ S k) : Row enc size base e W' v xs :=
  own_move h fun k hk => ho.keep (h.lt hk).2 (hs k hk)
theorem Good.onlyN {S : Nat → Prop} {W W' : World} {it : Item α} (h : Good enc size base e W it) (ho : Only S W W') (hs : ∀ k, it.has k → ¬ S k) : Good enc size base e W' it :=
  ⟨h.rv.onlyN ho fun k hk => hs k (.inl hk), h.rm.onlyN ho fun k hk => hs k (.inr hk), h.tie⟩
theorem BagI.onlyN {S : Nat → Prop} {W W' : World} {its : List (Item α)} (h : BagI enc size base e W its) (ho : Only S W W') (hs : ∀ it ∈ its, ∀ k, it.has k → ¬ S k) : BagI enc size base e W' its :=
  ⟨fun j hj => (h.ok j hj).onlyN ho (hs _ (List.getElem_mem hj)), h.apart⟩
theorem BagI.typed {W : World} {its : List (Item α)} (h : BagI enc size base e W its) {it : Item α} (hi : it ∈ its) {k : Nat} (hk : it.has k) : base ≤ k ∧ k < W.heap.size ∧ ∃ cs, W.heap[k]? = some (.cells cs e (0, 0)) := by
  obtain ⟨j, hj, rfl⟩ := List.getElem_of_mem hi
  have hG := h.ok j hj
  refine ⟨(hG.lt hk).1, (hG.lt hk).2, ?_⟩
  have go : ∀ {v : Value} {xs : List α}, Row enc size base e W v xs → v.ownBlock = some k → ∃ cs, W.heap[k]? = some (.cells cs e (0, 0)) := fun {v xs} hr hv => by
    rcases hr.shape with ⟨h2, _⟩ | ⟨g, cap, h2, _, _, cs, hc⟩
    · rw [h2] at hv; cases hv
    · rw [h2] at hv; cases hv; exact ⟨cs, hc⟩
  rcases hk with hk | hk
  · exact go hG.rv hk
  · exact go hG.rm hk
theorem BagI.snoc {W : World} {its : List (Item α)} (h : BagI enc size base e W its) {v : Value} {xs : List α} (hr : Row enc size base e W v xs) (hf : ∀ k, v.ownBlock = some k → ∀ it ∈ its, ¬ it.has k) : BagI enc size base e W (its ++ [start v xs]) := by
  rw [bagI_iff] at h ⊢
  refine ⟨fun it hi => ?_, ?_⟩
  · rcases List.mem_append.1 hi with hi | hi
    · exact h.1 it hi
    · rw [List.mem_singleton.1 hi]; exact start_good hr
  · rw [List.pairwise_append]
    refine ⟨h.2, List.pairwise_singleton _ _, fun a ha b hb k h1 h2 => ?_⟩
    rw [List.mem_singleton.1 hb] at h2
    exact hf k (start_has.1 h2) a ha h1
/-- one row becomes another one: in its own block, or in a new one -/
theorem BagI.swap {S : Nat → Prop} {W w' : World} {its : List (Item α)} (h : BagI enc size base e W its) {i : Nat} (hi : i < its.length) {v v' : Value} {xs xs' : List α} (hst : its[i] = start v xs) (hrow : Row enc size base e w' v' xs') (ho : Only S W w')
    (hS : ∀ k, S k → k < base ∨ v.ownBlock = some k) (hv' : ∀ k, v'.ownBlock = some k → v.ownBlock = some k ∨ W.heap.size ≤ k) : BagI enc size base e w' (its.set i (start v' xs')) := by
  have hasi : ∀ b, its[i].has b ↔ v.ownBlock = some b := fun b => by rw [hst]; exact start_has
  have other : ∀ j (hj : j < its.length), i ≠ j → ∀ b, (start v' xs').has b → ¬ its[j].has b := fun j hj hij b hb hb2 => by
    rcases hv' b (start_has.1 hb) with h1 | h1
    · exact h.apart i j hi hj hij b ((hasi b).2 h1) hb2
    · have := ((h.ok j hj).lt hb2).2; omega
  refine ⟨fun j hj => ?_, fun j k hj hk hne b hjb hkb => ?_⟩
  · rw [List.getElem_set]
    split
    · exact start_good hrow
    · rename_i hij
      have hj' : j < its.length := by simpa using hj
      refine (h.ok j hj').onlyN ho fun b hb hs => ?_
      rcases hS b hs with h1 | h1
      · have := ((h.ok j hj').lt hb).1; omega
      · exact h.apart i j hi hj' hij b ((hasi b).2 h1) hb
  · have hj' : j < its.length := by simpa using hj
    have hk' : k < its.length := by simpa using hk
    rw [List.getElem_set] at hjb hkb
    split at hjb
    · rename_i hij
      rw [if_neg (fun e => hne (hij.symm.trans e))] at hkb
      exact other k hk' (fun e => hne (hij.symm.trans e)) b hjb hkb
    · split at hkb
      · rename_i hik
        exact other j hj' (fun e => hne (e.symm.trans hik)) b hkb hjb
      · exact h.apart j k hj' hk' hne b hjb hkb
end
end Go.Proofs.YtkhnjckkjdldbaaGreatDoor.Bag
namespace Go.Proofs.YtkhnjckkjdldbaaGreatDoor.Q
open Go.RowKit Go.Proofs.YtkhnjckkjdldbaaGreatDoorW.PrintWords Go.Deep Go.Maps Go.WideShapes
open Go.Proofs.YtkhnjckkjdldbaaGreatDoor.Pr (S57 S59 S77)
open Go.Proofs.YtkhnjckkjdldbaaGreatDoor.Bag (BagI Row Good Item Lists encS encFd BagWatches BagFired own_lower)
set_option linter.unusedVariables false
set_option linter.unusedSimpArgs false
/-! THE STATE OF WATCHCALLS' WALK -/
abbrev bagCells (vW vF : Value) : Array Value := #[.slice none 0 0, .slice none 0 0, .slice none 0 0, .slice none 0 0, .slice none 0 0, .slice none 0 0, .slice none 0 0, .slice none 0 0, .slice none 0 0, .slice none 0 0, .slice none 0 0, .slice none 0 0, .slice none 0 0, .slice none 0 0, .slice none 0 0, vW, vF, .slice none 0 0, .slice none 0 0, .slice none 0 0, .slice none 0 0]
def upd {β : Type} (f : Nat → β) (p : Nat) (v : β) : Nat → β := fun k => if k = p then v else f k
theorem upd_same {β : Type} (f : Nat → β) (p : Nat) (v : β) : upd f p v p = v := if_pos rfl
theorem upd_other {β : Type} (f : Nat → β) {p k : Nat} (v : β) (h : k ≠ p) : upd f p v k = f k := if_neg h
abbrev rowsL (x : Nat → Value) (L : Nat → List S57) (R : Lists S57) : Lists S57 := (x 0, L 0) :: (x 1, L 1) :: R
theorem rowsL_upd {x : Nat → Value} {L : Nat → List S57} {R : Lists S57} {p : Nat} (hp : p < 2) (v : Value) (l : List S57) : rowsL (upd x p v) (upd L p l) R = (rowsL x L R).set p (v, l) := by
  match p, hp with
  | 0, _ => rfl
  | 1, _ => rfl
theorem rowsL_get {x : Nat → Value} {L : Nat → List S57} {R : Lists S57} {p : Nat} (hp : p < 2) : (rowsL x L R)[p]? = some (x p, L p) := by
  match p, hp with
  | 0, _ => rfl
  | 1, _ => rfl
/-- where the walk's own blocks lie -/
structure Geo (w0 V0 : World) (c b r : Nat → Nat) (q aA aB : Nat) : Prop where
  lc : ∀ p, p < 2 → w0.heap.size ≤ c p ∧ c p < V0.heap.size
  lb : ∀ p, p < 2 → w0.heap.size ≤ b p ∧ b p < V0.heap.size
  lr : ∀ p, p < 2 → w0.heap.size ≤ r p ∧ r p < V0.heap.size
  lq : w0.heap.size ≤ q ∧ q < V0.heap.size
  la : aA < V0.heap.size ∧ aB < V0.heap.size
  lv : w0.heap.size ≤ V0.heap.size
  cc : ∀ p s, p < 2 → s < 2 → p ≠ s → c p ≠ c s
  bb : ∀ p s, p < 2 → s < 2 → p ≠ s → b p ≠ b s
  rr : ∀ p s, p < 2 → s < 2 → p ≠ s → r p ≠ r s
structure Sys (w0 V0 : World) (c b r : Nat → Nat) (q aA aB : Nat) (P : Nat → WN) (came : Nat → Int) (x : Nat → Value) (L : Nat → List S57) (LW pw : Lists S57) (LF pf : Lists S77) (vW vF : Value) (W : World) : Prop where
  bel : Below w0.heap.size w0 W
  size : V0.heap.size ≤ W.heap.size
  brd : ∀ p, p < 2 → Brd (c p) (b p) (came p) (P p) W
  ref : ∀ p, p < 2 → W.heap[r p]? = some (.cells #[x p] 82 (0, 0))
  arrA : W.heap[aA]? = some (.cells #[.pointer (some ⟨c 0, 0, none⟩), .pointer (some ⟨c 1, 0, none⟩)] 27 (0, 0))
  arrB : W.heap[aB]? = some (.cells #[.pointer (some ⟨r 0, 0, none⟩), .pointer (some ⟨r 1, 0, none⟩)] 30 (0, 0))
  bag : W.heap[q]? = some (.cells (bagCells vW vF) 54 (0, 0))
  rows : BagWatches V0 W ((rowsL x L (LW ++ pw)).map fun y => Bag.start y.1 y.2)
  fired : BagFired V0 W ((LF ++ pf).map fun y => Bag.start y.1 y.2)
  outW : Row encS 1 V0.heap.size 64 W vW (LW.map Prod.fst)
  outF : Row encS 1 V0.heap.size 63 W vF (LF.map Prod.fst)
theorem Brd.onlyN {S : Nat → Prop} {c b : Nat} {came : Int} {P : WN} {W W' : World} (h : Brd c b came P W) (ho : Only S W W') (hc : ¬ S c) (hb : ¬ S b) : Brd c b came P W' := by
  obtain ⟨D, ⟨es, clock, h1, h2⟩, h3⟩ := h.map
  exact ⟨ho.blk h.cells hc, ⟨D, ⟨es, clock, ho.blk h1 hb, h2⟩, h3⟩, h.rise, h.low, h.c0, h.few⟩
theorem Brd.isMap {c b : Nat} {came : Int} {P : WN} {W : World} (h : Brd c b came P W) {cs : Array Value} {t : TypeId} {fr : Nat × Nat} (hb : W.heap[b]? = some (.cells cs t fr)) : False := by
  obtain ⟨D, ⟨es, clock, h1, h2⟩, h3⟩ := h.map
  rw [hb] at h1
  cases h1
theorem Brd.isBoard {c b : Nat} {came : Int} {P : WN} {W : World} (h : Brd c b came P W) {cs : Array Value} {t : TypeId} {fr : Nat × Nat} (hc : W.heap[c]? = some (.cells cs t fr)) : t = 80 := by
  rw [h.cells] at hc
  cases hc
  rfl
theorem Brd.notS {c b : Nat} {came : Int} {P : WN} {W : World} (h : Brd c b came P W) {j : Nat} {cs : Array Value} {t : TypeId} {fr : Nat × Nat} (hj : W.heap[j]? = some (.cells cs t fr)) (ht : t ≠ 80) : ¬ (j = b ∨ j = c) := by
  rintro (rfl | rfl)
  · exact h.isMap hj
  · exact ht (h.isBoard hj)
section
variable {w0 V0 : World} {c b r : Nat → Nat} {q aA aB : Nat} {P : Nat → WN} {came : Nat → Int} {x : Nat → Value} {L : Nat → List S57} {LW pw : Lists S57} {LF pf : Lists S77} {vW vF : Value} {W W' : World}
theorem Sys.below (h : Sys w0 V0 c b r q aA aB P came x L LW pw LF pf vW vF W) (hB : Below W.heap.size W W') : Sys w0 V0 c b r q aA aB P came x L LW pw LF pf vW vF W' :=
  ⟨below_step h.bel hB, Nat.le_trans h.size hB.size, fun p hp => (h.brd p hp).below hB, fun p hp => blkK (h.ref p hp) hB, blkK h.arrA hB, blkK h.arrB hB, blkK h.bag hB, h.rows.below hB, h.fired.below hB, h.outW.of_below hB, h.outF.of_below hB⟩
theorem Row.typedQ {α : Type} {enc : α → List Value} {size base : Nat} {e : TypeId} {v : Value} {xs : List α} (hr : Row enc size base e W v xs) {k : Nat} (hv : v.ownBlock = some k) : base ≤ k ∧ k < W.heap.size ∧ ∃ cs, W.heap[k]? = some (.cells cs e (0, 0)) := by
  refine ⟨(hr.lt hv).1, (hr.lt hv).2, ?_⟩
  rcases hr.shape with ⟨h2, _⟩ | ⟨g, cap, h2, _, _, cs, hc⟩
  · rw [h2] at hv; cases hv
  · rw [h2] at hv; cases hv; exact ⟨cs, hc⟩
/-- a call of the program's board p: what it tells is new -/
theorem Sys.does (g : Geo w0 V0 c b r q aA aB) (h : Sys w0 V0 c b r q aA aB P came x L LW pw LF pf vW vF W) {p : Nat} (hp : p < 2) {P' : WN} {came' : Int} (hbr : Brd (c p) (b p) came' P' W') (ho : Only (fun k => k = b p ∨ k = c p) W W')
    {v1 v2 : Value} {T1 : List S57} {T2 : List S77} (h1 : Row encW 3 W.heap.size 57 W' v1 T1) (h2 : Row encFd 5 W.heap.size 77 W' v2 T2) :
    Sys w0 V0 c b r q aA aB (upd P p P') (upd came p came') x L LW (pw ++ [(v1, T1)]) LF (pf ++ [(v2, T2)]) vW vF W' := by
  have hb := h.brd p hp
  have lt : ∀ k, V0.heap.size ≤ k → ¬ (k = b p ∨ k = c p) := fun k hk => by have := g.lc p hp; have := g.lb p hp; omega
  refine ⟨ho.from h.bel (fun k hk => by have := g.lc p hp; have := g.lb p hp; rcases hk with rfl | rfl <;> omega), Nat.le_trans h.size ho.size, fun s hs => ?_, fun s hs => ho.blk (h.ref s hs) (hb.notS (h.ref s hs) (by decide)), ho.blk h.arrA (hb.notS h.arrA (by decide)), ho.blk h.arrB (hb.notS h.arrB (by decide)), ho.blk h.bag (hb.notS h.bag (by decide)), ?_, ?_, ?_, ?_⟩
  · by_cases e : s = p
    · subst e; rw [upd_same, upd_same]; exact hbr
    · rw [upd_other _ _ e, upd_other _ _ e]
      refine (h.brd s hs).onlyN ho ?_ ?_
      · rintro (e1 | e1)
        · have h3 := (h.brd s hs).cells
          rw [e1] at h3
          exact hb.isMap h3
        · exact g.cc s p hs hp e e1
      · rintro (e1 | e1)
        · exact g.bb s p hs hp e e1
        · have h3 := hb.cells
          rw [← e1] at h3
          exact (h.brd s hs).isMap h3
  · have e1 : (rowsL x L (LW ++ (pw ++ [(v1, T1)]))).map (fun y => Bag.start y.1 y.2) = (rowsL x L (LW ++ pw)).map (fun y => Bag.start y.1 y.2) ++ [Bag.start v1 T1] := by simp [rowsL]
    rw [e1]
    refine BagI.snoc (h.rows.onlyN ho fun it hi k hk => lt k (h.rows.typed hi hk).1) (own_lower h1 h.size) fun k hk it hi hk2 => ?_
    have := (h1.lt hk).1
    have := (h.rows.typed hi hk2).2.1
    omega
  · have e1 : (LF ++ (pf ++ [(v2, T2)])).map (fun y => Bag.start y.1 y.2) = (LF ++ pf).map (fun y => Bag.start y.1 y.2) ++ [Bag.start v2 T2] := by simp
    rw [e1]
    refine BagI.snoc (h.fired.onlyN ho fun it hi k hk => lt k (h.fired.typed hi hk).1) (own_lower h2 h.size) fun k hk it hi hk2 => ?_
    have := (h2.lt hk).1
    have := (h.fired.typed hi hk2).2.1
    omega
  · exact h.outW.onlyN ho fun k hk => lt k (h.outW.lt hk).1
  · exact h.outF.onlyN ho fun k hk => lt k (h.outF.lt hk).1
/-- a call of the document's board p: its list lies in its own block, or in a new one -/
theorem Sys.wants (g : Geo w0 V0 c b r q aA aB) (h : Sys w0 V0 c b r q aA aB P came x L LW pw LF pf vW vF W) {p : Nat} (hp : p < 2) {x' : Value} {L' : List S57} (hr : W'.heap[r p]? = some (.cells #[x'] 82 (0, 0)))
    (hrow : Row encW 3 V0.heap.size 57 W' x' L') (ho : Only (fun k => k = r p ∨ (x p).ownBlock = some k) W W') (hx : ∀ k, x'.ownBlock = some k → (x p).ownBlock = some k ∨ W.heap.size ≤ k) :
    Sys w0 V0 c b r q aA aB P came (upd x p x') (upd L p L') LW pw LF pf vW vF W' := by
  have hmem : Bag.start (x p) (L p) ∈ (rowsL x L (LW ++ pw)).map fun y => Bag.start y.1 y.2 := List.mem_map.2 ⟨_, List.mem_of_getElem? (rowsL_get hp), rfl⟩
  have own : ∀ k, (x p).ownBlock = some k → V0.heap.size ≤ k ∧ ∃ cs, W.heap[k]? = some (.cells cs 57 (0, 0)) := fun k hk => by
    obtain ⟨h1, _, h3⟩ := h.rows.typed hmem (k := k) (.inl hk)
    exact ⟨h1, h3⟩
  have notS : ∀ {j : Nat} {cs : Array Value} {t : TypeId} {fr : Nat × Nat}, W.heap[j]? = some (.cells cs t fr) → t ≠ 82 → t ≠ 57 → ¬ (j = r p ∨ (x p).ownBlock = some j) := fun {j cs t fr} hj h1 h2 => by
    rintro (rfl | e)
    · rw [h.ref p hp] at hj; cases hj; exact h1 rfl
    · obtain ⟨_, cs', h3⟩ := own j e
      rw [h3] at hj; cases hj; exact h2 rfl
  refine ⟨ho.from h.bel (fun k hk => by
      rcases hk with rfl | e
      · exact (g.lr p hp).1
      · exact Nat.le_trans g.lv (own k e).1), Nat.le_trans h.size ho.size, fun s hs => ?_, fun s hs => ?_, ho.blk h.arrA (notS h.arrA (by decide) (by decide)), ho.blk h.arrB (notS h.arrB (by decide) (by decide)), ho.blk h.bag (notS h.bag (by decide) (by decide)), ?_, ?_, ?_, ?_⟩
  · refine (h.brd s hs).onlyN ho (notS (h.brd s hs).cells (by decide) (by decide)) ?_
    rintro (e | e)
    · have h3 := h.ref p hp
      rw [← e] at h3
      exact (h.brd s hs).isMap h3
    · obtain ⟨_, cs', h3⟩ := own _ e
      exact (h.brd s hs).isMap h3
  · by_cases e : s = p
    · subst e; rw [upd_same]; exact hr
    · rw [upd_other _ _ e]
      refine ho.blk (h.ref s hs) ?_
      rintro (e1 | e1)
      · exact g.rr s p hs hp e e1
      · have h3 := (own _ e1).1
        have := (g.lr s hs).2
        omega
  · rw [rowsL_upd hp, List.map_set]
    have hlt : p < ((rowsL x L (LW ++ pw)).map fun y => Bag.start y.1 y.2).length := by simp [rowsL]; omega
    refine BagI.swap (S := fun k => k = r p ∨ (x p).ownBlock = some k) h.rows hlt (v := x p) (xs := L p) ?_ hrow ho (fun k hk => ?_) hx
    · have h1 := rowsL_get (x := x) (L := L) (R := LW ++ pw) hp
      rw [List.getElem_map]
      obtain ⟨h2, h3⟩ := List.getElem?_eq_some_iff.1 h1
      rw [h3]
    · rcases hk with rfl | e
      · exact .inl (g.lr p hp).2
      · exact .inr e
  · refine h.fired.onlyN ho fun it hi k hk => ?_
    obtain ⟨_, _, cs, h3⟩ := h.fired.typed hi hk
    exact notS h3 (by decide) (by decide)
  · refine h.outW.onlyN ho fun k hk => ?_
    obtain ⟨_, _, cs, h3⟩ := Row.typedQ h.outW hk
    exact notS h3 (by decide) (by decide)
  · refine h.outF.onlyN ho fun k hk => ?_
    obtain ⟨_, _, cs, h3⟩ := Row.typedQ h.outF hk
    exact notS h3 (by decide) (by decide)
theorem Sys.row (h : Sys w0 V0 c b r q aA aB P came x L LW pw LF pf vW vF W) {p : Nat} (hp : p < 2) : Row encW 3 V0.heap.size 57 W (x p) (L p) := by
  have hmem : Bag.start (x p) (L p) ∈ (rowsL x L (LW ++ pw)).map fun y => Bag.start y.1 y.2 := List.mem_map.2 ⟨_, List.mem_of_getElem? (rowsL_get hp), rfl⟩
  obtain ⟨j, hj, e⟩ := List.getElem_of_mem hmem
  have := (h.rows.ok j hj).rv
  rw [e] at this
  exact this
end
end Go.Proofs.YtkhnjckkjdldbaaGreatDoor.Q
namespace Go.Proofs.YtkhnjckkjdldbaaGreatDoor.Q
open Go.RowKit Go.Proofs.YtkhnjckkjdldbaaGreatDoorW.PrintWords Go.Deep Go.Maps Go.WideShapes
open Go.Proofs.YtkhnjckkjdldbaaGreatDoor.Pr (S57 S59 S77 S61)
open Go.Proofs.YtkhnjckkjdldbaaGreatDoor.Bag (Row encFd own_lower)
set_option linter.unusedVariables false
set_option linter.unusedSimpArgs false
attribute [local go_sem] Oper.semAt_some
/-! WHAT A STEP OF THE PROGRAM's BOARD TELLS -/
abbrev encS7 (y : S61) : List Value := [.int .i64 y.f0, .int .i64 y.f1, .int .i64 y.f2.f0, .int .i8 y.f2.f1, .string y.f2.f2, .int .i8 y.f3.f0, .string y.f3.f1]
structure DoneB where
  e : Int
  fired : List S77
  told : List S57
  left : WN
  came : Int
noncomputable def doneB (P : WN) (came : Int) (y : S61) : DoneB :=
  if y.f1 = 0 then ⟨(addB P came y.f2).1, [], [], (addB P came y.f2).2.1, (addB P came y.f2).2.2⟩
  else if y.f1 = 1 then ⟨0, (toldB y.f3.f0 y.f3.f1 P).map (fun x => ⟨x, y.f3⟩), [], leftB y.f3.f0 y.f3.f1 P, came⟩
  else if y.f1 = 2 then ⟨0, [], (P.map Prod.fst).filter (fun x => x.f0 == y.f2.f0), P.filter (fun p => !(p.1.f0 == y.f2.f0)), came⟩
  else if y.f1 = 3 then ⟨0, [], P.map Prod.fst, [], came⟩
  else ⟨0, [], P.map Prod.fst, P, came⟩
theorem row_nil {α : Type} (enc : α → List Value) (size base : Nat) (e : TypeId) (W : World) : Row enc size base e W (.slice none 0 0) [] := World.ownsRow_nil _ _ _ _
theorem frozen_rowK {W : World} {q j : Nat} {cs : Array Value} {t : TypeId} (h : W.heap[q]? = some (.cells cs t (0, 0))) : W.frozen? ⟨q, j, none⟩ = false := by
  simp [World.frozen?, h]
theorem two_boxes (w : World) (cs ds : Array Value) (t u : TypeId) : ∃ W2, (w.alloc (.cells cs t)).alloc (.cells ds u) = W2 ∧ Below w.heap.size w W2 ∧ W2.heap[w.heap.size]? = some (.cells cs t (0, 0)) ∧ W2.heap[w.heap.size + 1]? = some (.cells ds u (0, 0)) := by
  refine ⟨_, rfl, below_two _ _ _, ?_, ?_⟩
  · rw [heap_alloc_old _ _ (by simp)]; exact heap_alloc_new w _
  · have := heap_alloc_new (w.alloc (.cells cs t)) (.cells ds u)
    rw [World.size_alloc] at this
    exact this
theorem only_setCells {S : Nat → Prop} {w W : World} {k : Nat} (h : Only S w W) (hk : w.heap.size ≤ k) (a b c : Value) : Only S w (((W.setCell ⟨k, 0, none⟩ a).setCell ⟨k, 1, none⟩ b).setCell ⟨k, 2, none⟩ c) :=
  ((h.setCell (p := ⟨k, 0, none⟩) (.inr hk) a).setCell (p := ⟨k, 1, none⟩) (.inr hk) b).setCell (p := ⟨k, 2, none⟩) (.inr hk) c
theorem set3 {W : World} {k : Nat} {t : TypeId} {a0 a1 a2 : Value} (h : W.heap[k]? = some (.cells #[a0, a1, a2] t (0, 0))) (u v z : Value) :
    (((W.setCell ⟨k, 0, none⟩ u).setCell ⟨k, 1, none⟩ v).setCell ⟨k, 2, none⟩ z).heap[k]? = some (.cells #[u, v, z] t (0, 0)) := by
  have h1 : (W.setCell ⟨k, 0, none⟩ u).heap[k]? = some (.cells #[u, a1, a2] t (0, 0)) := heap_setCell_same W k 0 _ _ _ h
  have h2 : ((W.setCell ⟨k, 0, none⟩ u).setCell ⟨k, 1, none⟩ v).heap[k]? = some (.cells #[u, v, a2] t (0, 0)) := heap_setCell_same _ k 1 _ _ _ h1
  exact heap_setCell_same _ k 2 _ _ _ h2
theorem row_set3 {α : Type} {enc : α → List Value} {size base : Nat} {e : TypeId} {W : World} {v : Value} {xs : List α} (h : Row enc size base e W v xs) {k : Nat} (hk : v.ownBlock ≠ some k) (a b c : Value) : Row enc size base e (((W.setCell ⟨k, 0, none⟩ a).setCell ⟨k, 1, none⟩ b).setCell ⟨k, 2, none⟩ c) v xs := by
  have ne : ∀ j, v.ownBlock = some j → j ≠ k := fun j hj e => hk (by rw [hj, e])
  exact own_move h fun j hj => by rw [heap_setCell_other _ _ j _ (ne j hj), heap_setCell_other _ _ j _ (ne j hj), heap_setCell_other _ _ j _ (ne j hj)]
theorem brd_set3 {c b : Nat} {came : Int} {P : WN} {W : World} (h : Brd c b came P W) {k : Nat} (hc : c ≠ k) (hb : b ≠ k) (u v z : Value) : Brd c b came P (((W.setCell ⟨k, 0, none⟩ u).setCell ⟨k, 1, none⟩ v).setCell ⟨k, 2, none⟩ z) :=
  h.onlyN (S := fun j => j = k) ((((Only.refl (fun j => j = k) W).setCell (p := ⟨k, 0, none⟩) (.inl rfl) u).setCell (p := ⟨k, 1, none⟩) (.inl rfl) v).setCell (p := ⟨k, 2, none⟩) (.inl rfl) z) hc hb
set_option maxRecDepth 100000 in
set_option maxHeartbeats 8000000 in
theorem does_calls {c b : Nat} {came : Int} {P : WN} {w : World} (y : S61) (h : Brd c b came P w) (hwf : wfW y.f2) (hs1 : y.f2.f2.size ≤ 2147483648) (hs2 : y.f3.f1.size ≤ 2147483648) (hc : came < 4611686018427387904) (hr : ∀ q ∈ P, rightB q.1 = true)
    (hT : ∀ W, Only (fun k => k = b ∨ k = c) w W → Tabs W) :
    Calls Tryz.prog 8 #[.pointer (some ⟨c, 0, none⟩), .agg (encS7 y).toArray] w fun e w' => ∃ vF vW, e = .returned (.agg #[.int .i64 (doneB P came y).e, vF, vW]) ∧ Row encFd 5 w.heap.size 77 w' vF (doneB P came y).fired ∧ Row encW 3 w.heap.size 57 w' vW (doneB P came y).told ∧
      Brd c b (doneB P came y).came (doneB P came y).left w' ∧ Only (fun k => k = b ∨ k = c) w w' := by
  obtain ⟨pl, wh, ⟨a, k, p⟩, ⟨ck, cp⟩⟩ := y
  obtain ⟨W2, hW2, hB2, hz0, hz1⟩ := two_boxes w #[.int .i64 pl, .int .i64 wh, .int .i64 a, .int .i8 k, .string p, .int .i8 ck, .string cp] #[.int .i64 0, .slice none 0 0, .slice none 0 0] 61 66
  have hbb : b < w.heap.size := by obtain ⟨D, h1, _⟩ := h.map; exact h1.lt
  have hcb : c < w.heap.size := (Array.getElem?_eq_some_iff.1 h.cells).1
  have HBR := Lib.hid (h.below hB2)
  have HB := Lib.hid hB2
  have HW := Lib.hid hW2
  have HZ := Lib.hid (And.intro hz0 hz1)
  have HR := Lib.hid hr
  have HWF := Lib.hid hwf
  have HT2 : Hid (∀ W, Only (fun k => k = b ∨ k = c) W2 W → Tabs W) := Lib.hid (fun W ho => hT W ((Only.of_below hB2).trans ho (fun _ _ e => e)))
  have e1 := cell_rowK (k := 1) (v := .int .i64 wh) hz0 rfl
  have e2 := cell_rowK (k := 2) (v := .int .i64 a) hz0 rfl
  have e3 := cell_rowK (k := 3) (v := .int .i8 k) hz0 rfl
  have e4 := cell_rowK (k := 4) (v := .string p) hz0 rfl
  have e5 := cell_rowK (k := 5) (v := .int .i8 ck) hz0 rfl
  have e6 := cell_rowK (k := 6) (v := .string cp) hz0 rfl
  rw [← hW2] at e1 e2 e3 e4 e5 e6
  clear h hB2 hW2 hz0 hz1 hr hwf hT
  simp only at hs1 hs2
  by_cases c0 : wh = 0
  · subst c0
    have KA := Lib.hid (add_calls ⟨a, k, p⟩ HBR.out HWF.out (by show p.size ≤ _; omega) hc (HT2.out W2 (Only.refl _ _)))
    rw [show doneB P came ⟨pl, 0, ⟨a, k, p⟩, ⟨ck, cp⟩⟩ = ⟨(addB P came ⟨a, k, p⟩).1, [], [], (addB P came ⟨a, k, p⟩).2.1, (addB P came ⟨a, k, p⟩).2.2⟩ from if_pos rfl]
    obtain ⟨E, hE⟩ : ∃ E, addB P came ⟨a, k, p⟩ = E := ⟨_, rfl⟩
    rw [hE] at KA ⊢
    clear hE
    go_enter Tryz.func8, Tryz.ntmps8
    go_wp2_with fail
    rw [HW.out]
    refine KA.out.mono ?_
    rintro e w3 ⟨rfl, hbr, ho⟩
    have hz := ho.blk HZ.out.2 (by omega)
    have s0 := cell_rowK (k := 0) (v := .int .i64 0) hz rfl
    have s1 := cell_rowK (k := 1) (v := .slice none 0 0) hz rfl
    have s2 := cell_rowK (k := 2) (v := .slice none 0 0) hz rfl
    have f0 := frozen_rowK (j := 0) hz
    have f1 := frozen_rowK (j := 1) hz
    have f2 := frozen_rowK (j := 2) hz
    have HZ3 := Lib.hid hz
    have HBR3 := Lib.hid hbr
    have HO3 := Lib.hid ((Only.of_below (S := fun k => k = b ∨ k = c) HB.out).trans ho (fun _ _ e => e))
    clear KA hbr ho e1 e2 e3 e4 e5 e6 hz
    go_wp2
    (try simp only [Exit.inBlock, Exit.then])
    refine bodyPost_ret (results_single rfl (.cell (w.heap.size + 1) 66 _ (0, 0) _ rfl (set3 HZ3.out _ _ _) Tryz.underlying66 rfl (by kernel_rfl) .nil)) rfl ?_
    exact ⟨_, _, rfl, row_nil _ _ _ _ _, row_nil _ _ _ _ _, brd_set3 HBR3.out (by omega) (by omega) _ _ _, only_setCells HO3.out (by omega) _ _ _⟩
  by_cases c1 : wh = 1
  · subst c1
    have KA := Lib.hid (fire_calls HBR.out hc HR.out ck cp (by omega) (fun W ho => HT2.out W (ho.mono (fun _ _ e => .inl e))))
    rw [show doneB P came ⟨pl, 1, ⟨a, k, p⟩, ⟨ck, cp⟩⟩ = ⟨0, (toldB ck cp P).map (fun x => ⟨x, ⟨ck, cp⟩⟩), [], leftB ck cp P, came⟩ from rfl]
    go_enter Tryz.func8, Tryz.ntmps8
    go_wp2_with fail
    rw [HW.out]
    refine KA.out.mono ?_
    rintro e w3 ⟨v, rfl, hrow', hbr, ho⟩
    have hrow : Row encFd 5 W2.heap.size 77 w3 v ((toldB ck cp P).map (fun x => (⟨x, ⟨ck, cp⟩⟩ : S77))) := by
      unfold Row
      rw [List.length_map, List.flatMap_map]
      exact hrow'
    obtain ⟨A, cap, rfl, hcap⟩ := Bag.Row.slice hrow
    obtain ⟨nL, hnL⟩ : ∃ n, ((toldB ck cp P).map (fun x => (⟨x, ⟨ck, cp⟩⟩ : S77))).length = n := ⟨_, rfl⟩
    rw [hnL] at hrow ⊢
    clear hnL
    have hz := ho.blk HZ.out.2 (by omega)
    have s0 := cell_rowK (k := 0) (v := .int .i64 0) hz rfl
    have s1 := cell_rowK (k := 1) (v := .slice none 0 0) hz rfl
    have s2 := cell_rowK (k := 2) (v := .slice none 0 0) hz rfl
    have f0 := frozen_rowK (j := 0) hz
    have f1 := frozen_rowK (j := 1) hz
    have f2 := frozen_rowK (j := 2) hz
    have HZ3 := Lib.hid hz
    have HBR3 := Lib.hid hbr
    have HO3 := Lib.hid ((Only.of_below (S := fun k => k = b ∨ k = c) HB.out).trans ho (fun _ _ e => .inl e))
    have HRW := Lib.hid (own_lower (base' := w.heap.size) hrow HB.out.size)
    have hsz2 : w.heap.size + 1 < W2.heap.size := (Array.getElem?_eq_some_iff.1 HZ.out.2).1
    have HNE : Hid ((Value.slice A nL cap).ownBlock ≠ some (w.heap.size + 1)) := Lib.hid (fun e => by have := (World.ownsRow.lt hrow _ e).1; omega)
    clear KA hrow' hcap hbr ho e1 e2 e3 e4 e5 e6 hz hrow
    go_wp2
    (try simp only [Exit.inBlock, Exit.then])
    refine bodyPost_ret (results_single rfl (.cell (w.heap.size + 1) 66 _ (0, 0) _ rfl (set3 HZ3.out _ _ _) Tryz.underlying66 rfl (by kernel_rfl) .nil)) rfl ?_
    exact ⟨_, _, rfl, row_set3 HRW.out HNE.out _ _ _, row_nil _ _ _ _ _, brd_set3 HBR3.out (by omega) (by omega) _ _ _, only_setCells HO3.out (by omega) _ _ _⟩
  by_cases c2 : wh = 2
  · subst c2
    have KA := drop_calls a HBR.out hc
    have KA := Lib.hid KA
    rw [show doneB P came ⟨pl, 2, ⟨a, k, p⟩, ⟨ck, cp⟩⟩ = ⟨0, [], (P.map Prod.fst).filter (fun x => x.f0 == a), P.filter (fun p => !(p.1.f0 == a)), came⟩ from rfl]
    go_enter Tryz.func8, Tryz.ntmps8
    go_wp2_with fail
    rw [HW.out]
    refine KA.out.mono ?_
    rintro e w3 ⟨v, rfl, hrow, hbr, ho⟩
    obtain ⟨A, cap, rfl, hcap⟩ := Bag.Row.slice (enc := encW) (xs := ((P.map Prod.fst).filter (fun x => x.f0 == a))) hrow
    obtain ⟨nL, hnL⟩ : ∃ n, (((P.map Prod.fst).filter (fun x => x.f0 == a))).length = n := ⟨_, rfl⟩
    have hrow : Row encW 3 W2.heap.size 57 w3 (.slice A nL cap) ((P.map Prod.fst).filter (fun x => x.f0 == a)) := by rw [← hnL]; exact hrow
    rw [hnL]
    clear hnL
    have hz := ho.blk HZ.out.2 (by omega)
    have s0 := cell_rowK (k := 0) (v := .int .i64 0) hz rfl
    have s1 := cell_rowK (k := 1) (v := .slice none 0 0) hz rfl
    have s2 := cell_rowK (k := 2) (v := .slice none 0 0) hz rfl
    have f0 := frozen_rowK (j := 0) hz
    have f1 := frozen_rowK (j := 1) hz
    have f2 := frozen_rowK (j := 2) hz
    have HZ3 := Lib.hid hz
    have HBR3 := Lib.hid hbr
    have HO3 := Lib.hid ((Only.of_below (S := fun k => k = b ∨ k = c) HB.out).trans ho (fun _ _ e => .inl e))
    have HRW := Lib.hid (own_lower (base' := w.heap.size) hrow HB.out.size)
    have hsz2 : w.heap.size + 1 < W2.heap.size := (Array.getElem?_eq_some_iff.1 HZ.out.2).1
    have HNE : Hid ((Value.slice A nL cap).ownBlock ≠ some (w.heap.size + 1)) := Lib.hid (fun e => by have := (World.ownsRow.lt hrow _ e).1; omega)
    clear KA hcap hbr ho e1 e2 e3 e4 e5 e6 hz hrow
    go_wp2
    (try simp only [Exit.inBlock, Exit.then])
    refine bodyPost_ret (results_single rfl (.cell (w.heap.size + 1) 66 _ (0, 0) _ rfl (set3 HZ3.out _ _ _) Tryz.underlying66 rfl (by kernel_rfl) .nil)) rfl ?_
    exact ⟨_, _, rfl, row_nil _ _ _ _ _, row_set3 HRW.out HNE.out _ _ _, brd_set3 HBR3.out (by omega) (by omega) _ _ _, only_setCells HO3.out (by omega) _ _ _⟩
  by_cases c3 : wh = 3
  · subst c3
    have KA := clear_calls HBR.out hc
    rw [show (P.filter fun p => !true) = [] by simp, show ((P.map Prod.fst).filter fun _ => true) = P.map Prod.fst by simp] at KA
    have KA := Lib.hid KA
    rw [show doneB P came ⟨pl, 3, ⟨a, k, p⟩, ⟨ck, cp⟩⟩ = ⟨0, [], P.map Prod.fst, [], came⟩ from rfl]
    go_enter Tryz.func8, Tryz.ntmps8
    go_wp2_with fail
    rw [HW.out]
    refine KA.out.mono ?_
    rintro e w3 ⟨v, rfl, hrow, hbr, ho⟩
    obtain ⟨A, cap, rfl, hcap⟩ := Bag.Row.slice (enc := encW) (xs := (P.map Prod.fst)) hrow
    obtain ⟨nL, hnL⟩ : ∃ n, ((P.map Prod.fst)).length = n := ⟨_, rfl⟩
    have hrow : Row encW 3 W2.heap.size 57 w3 (.slice A nL cap) (P.map Prod.fst) := by rw [← hnL]; exact hrow
    rw [hnL]
    clear hnL
    have hz := ho.blk HZ.out.2 (by omega)
    have s0 := cell_rowK (k := 0) (v := .int .i64 0) hz rfl
    have s1 := cell_rowK (k := 1) (v := .slice none 0 0) hz rfl
    have s2 := cell_rowK (k := 2) (v := .slice none 0 0) hz rfl
    have f0 := frozen_rowK (j := 0) hz
    have f1 := frozen_rowK (j := 1) hz
    have f2 := frozen_rowK (j := 2) hz
    have HZ3 := Lib.hid hz
    have HBR3 := Lib.hid hbr
    have HO3 := Lib.hid ((Only.of_below (S := fun k => k = b ∨ k = c) HB.out).trans ho (fun _ _ e => .inl e))
    have HRW := Lib.hid (own_lower (base' := w.heap.size) hrow HB.out.size)
    have hsz2 : w.heap.size + 1 < W2.heap.size := (Array.getElem?_eq_some_iff.1 HZ.out.2).1
    have HNE : Hid ((Value.slice A nL cap).ownBlock ≠ some (w.heap.size + 1)) := Lib.hid (fun e => by have := (World.ownsRow.lt hrow _ e).1; omega)
    clear KA hcap hbr ho e1 e2 e3 e4 e5 e6 hz hrow
    go_wp2
    (try simp only [Exit.inBlock, Exit.then])
    refine bodyPost_ret (results_single rfl (.cell (w.heap.size + 1) 66 _ (0, 0) _ rfl (set3 HZ3.out _ _ _) Tryz.underlying66 rfl (by kernel_rfl) .nil)) rfl ?_
    exact ⟨_, _, rfl, row_nil _ _ _ _ _, row_set3 HRW.out HNE.out _ _ _, brd_set3 HBR3.out (by omega) (by omega) _ _ _, only_setCells HO3.out (by omega) _ _ _⟩
  have t0 : (wh == 0) = false := by simpa using c0
  have t1 : (wh == 1) = false := by simpa using c1
  have t2 : (wh == 2) = false := by simpa using c2
  have t3 : (wh == 3) = false := by simpa using c3
  have KA := Lib.hid (all_calls HBR.out hc)
  rw [show doneB P came ⟨pl, wh, ⟨a, k, p⟩, ⟨ck, cp⟩⟩ = ⟨0, [], P.map Prod.fst, P, came⟩ by unfold doneB; simp [c0, c1, c2, c3]]
  go_enter Tryz.func8, Tryz.ntmps8
  go_wp2_with fail
  rw [HW.out]
  refine KA.out.mono ?_
  rintro e w3 ⟨v, rfl, hrow', hB⟩
  have hbr := HBR.out.below hB
  have ho : Only (fun k => k = b ∨ k = c) W2 w3 := Only.of_below hB
  have hrow : Row encW 3 W2.heap.size 57 w3 v (P.map Prod.fst) := by unfold Row; rw [List.length_map]; exact hrow'
  obtain ⟨A, cap, rfl, hcap⟩ := Bag.Row.slice hrow
  obtain ⟨nL, hnL⟩ : ∃ n, (P.map Prod.fst).length = n := ⟨_, rfl⟩
  rw [hnL] at hrow ⊢
  clear hnL
  have hz := ho.blk HZ.out.2 (by omega)
  have s0 := cell_rowK (k := 0) (v := .int .i64 0) hz rfl
  have s1 := cell_rowK (k := 1) (v := .slice none 0 0) hz rfl
  have s2 := cell_rowK (k := 2) (v := .slice none 0 0) hz rfl
  have f0 := frozen_rowK (j := 0) hz
  have f1 := frozen_rowK (j := 1) hz
  have f2 := frozen_rowK (j := 2) hz
  have HZ3 := Lib.hid hz
  have HBR3 := Lib.hid hbr
  have HO3 := Lib.hid ((Only.of_below (S := fun k => k = b ∨ k = c) HB.out).trans ho (fun _ _ e => e))
  have HRW := Lib.hid (own_lower (base' := w.heap.size) hrow HB.out.size)
  have hsz2 : w.heap.size + 1 < W2.heap.size := (Array.getElem?_eq_some_iff.1 HZ.out.2).1
  have HNE : Hid ((Value.slice A nL cap).ownBlock ≠ some (w.heap.size + 1)) := Lib.hid (fun e => by have := (World.ownsRow.lt hrow _ e).1; omega)
  clear KA hcap hrow' hB hbr ho e1 e2 e3 e4 e5 e6 hz hrow
  go_wp2
  (try simp only [Exit.inBlock, Exit.then])
  refine bodyPost_ret (results_single rfl (.cell (w.heap.size + 1) 66 _ (0, 0) _ rfl (set3 HZ3.out _ _ _) Tryz.underlying66 rfl (by kernel_rfl) .nil)) rfl ?_
  exact ⟨_, _, rfl, row_nil _ _ _ _ _, row_set3 HRW.out HNE.out _ _ _, brd_set3 HBR3.out (by omega) (by omega) _ _ _, only_setCells HO3.out (by omega) _ _ _⟩
end Go.Proofs.YtkhnjckkjdldbaaGreatDoor.Q
