import Derived.Test.YtkhnjckkjdldbaaGreatDoorG10
import Derived.Deep.DeepCutAuto
namespace Go.Proofs.YtkhnjckkjdldbaaGreatDoor.Q
open Go.RowKit Go.Proofs.YtkhnjckkjdldbaaGreatDoorW.PrintWords Go.Deep Go.Maps Go.WideShapes
open Go.Proofs.YtkhnjckkjdldbaaGreatDoor.Pr (S57 S59 S77 S61 k57 k77 k61 rd_T61)
open Go.Proofs.YtkhnjckkjdldbaaGreatDoor
open Go.Proofs.YtkhnjckkjdldbaaGreatDoor.Bag (BagI Row Good Item Lists encS encFd own_lower OwnOf)
set_option linter.unusedVariables false
set_option linter.unusedSimpArgs false
attribute [local go_sem] Oper.semAt_some
/-! WATCHCALLS: STEPS OF BOTH BOARDS, OVER THE STATE -/
theorem bit_and (a : Int) : ∃ k : Nat, k < 2 ∧ bits .and .i64 a 1 = k := by
  have h : (BitVec.ofInt 64 a &&& BitVec.ofInt 64 1).toNat ≤ 1 := by
    rw [BitVec.toNat_and]; exact Nat.and_le_right
  have e : bits .and .i64 a 1 = IntKind.i64.wrap ((BitVec.ofInt 64 a &&& BitVec.ofInt 64 1).toNat : Int) := rfl
  rw [e]
  generalize (BitVec.ofInt 64 a &&& BitVec.ofInt 64 1).toNat = x at h
  have : x = 0 ∨ x = 1 := by omega
  rcases this with rfl | rfl
  · exact ⟨0, by omega, by decide⟩
  · exact ⟨1, by omega, by decide⟩
theorem two_cases' {p : Nat} (hp : p < 2) : p = 0 ∨ p = 1 := by omega
theorem doneB_facts {P : WN} {came : Int} (y : S61) (hf : P.length ≤ 64) (hr : ∀ s ∈ P, rightB s.1 = true) : (doneB P came y).told.length ≤ 64 ∧ (doneB P came y).fired.length ≤ 64 ∧ (∀ s ∈ (doneB P came y).left, rightB s.1 = true) ∧ (doneB P came y).came ≤ came + 1 := by
  unfold doneB
  split
  · refine ⟨by simp, by simp, ?_, ?_⟩
    · intro s hs
      simp only at hs
      rcases add_cases P came y.f2 with ⟨h1, h2⟩ | ⟨h1, h2, h3⟩ | ⟨h1, h2, h3, h4⟩ | ⟨h1, h2, h3, h4⟩
      · rw [h2] at hs; exact hr s hs
      · rw [h3] at hs; exact hr s hs
      · rw [h4] at hs; exact hr s hs
      · rw [h4] at hs
        rcases List.mem_append.1 hs with h | h
        · exact hr s h
        · rw [List.mem_singleton.1 h]; exact h1
    · simp only
      rcases add_cases P came y.f2 with ⟨h1, h2⟩ | ⟨h1, h2, h3⟩ | ⟨h1, h2, h3, h4⟩ | ⟨h1, h2, h3, h4⟩
      · rw [h2]; simp only; omega
      · rw [h3]; simp only; omega
      · rw [h4]; simp only; omega
      · rw [h4]; simp only; omega
  · split
    · refine ⟨by simp, ?_, fun s hs => hr s (left_sub _ _ _ s hs), by simp only; omega⟩
      simp only [List.length_map]
      rw [told_hit]
      refine Nat.le_trans (List.length_filter_le _ _) ?_
      rw [List.length_map]; exact hf
    · split
      · refine ⟨?_, by simp, fun s hs => hr s (List.mem_filter.1 hs).1, by simp only; omega⟩
        refine Nat.le_trans (List.length_filter_le _ _) ?_
        rw [List.length_map]; exact hf
      · split
        · exact ⟨by simp only [List.length_map]; exact hf, by simp, fun s hs => absurd hs (by simp), by simp only; omega⟩
        · exact ⟨by simp only [List.length_map]; exact hf, by simp, hr, by simp only; omega⟩
section
variable {w0 V0 : World} {c b r : Nat → Nat} {q aA aB : Nat} {P : Nat → WN} {came : Nat → Int} {x : Nat → Value} {L : Nat → List S57} {LW pw : Lists S57} {LF pf : Lists S77} {vW vF : Value} {W W' : World}
theorem Sys.does_calls (g : Geo w0 V0 c b r q aA aB) (h : Sys w0 V0 c b r q aA aB P came x L LW pw LF pf vW vF W) {p : Nat} (hp : p < 2) (y : S61) (hwf : wfW y.f2) (hs1 : y.f2.f2.size ≤ 2147483648) (hs2 : y.f3.f1.size ≤ 2147483648) (hc : came p < 4611686018427387904) (hr : ∀ s ∈ P p, rightB s.1 = true)
    (hT : ∀ V, Below w0.heap.size w0 V → Tabs V) :
    Calls Tryz.prog 8 #[.pointer (some ⟨c p, 0, none⟩), .agg (encS7 y).toArray] W fun e w' => ∃ A1 n1 c1 A2 n2 c2, e = .returned (.agg #[.int .i64 (doneB (P p) (came p) y).e, .slice A1 n1 c1, .slice A2 n2 c2]) ∧
      Sys w0 V0 c b r q aA aB (upd P p (doneB (P p) (came p) y).left) (upd came p (doneB (P p) (came p) y).came) x L LW (pw ++ [(.slice A2 n2 c2, (doneB (P p) (came p) y).told)]) LF (pf ++ [(.slice A1 n1 c1, (doneB (P p) (came p) y).fired)]) vW vF w' ∧ Only (fun k => k = b p ∨ k = c p) W w' := by
  refine (Q.does_calls y (h.brd p hp) hwf hs1 hs2 hc hr (fun V ho => hT V (ho.from h.bel (fun k hk => by have := g.lc p hp; have := g.lb p hp; rcases hk with rfl | rfl <;> omega)))).mono ?_
  rintro e w' ⟨v1, v2, he, h1, h2, h3, h4⟩
  obtain ⟨A1, c1, rfl, _⟩ := Bag.Row.slice h1
  obtain ⟨A2, c2, rfl, _⟩ := Bag.Row.slice h2
  exact ⟨A1, _, c1, A2, _, c2, he, h.does g hp h3 h4 h2 h1, h4⟩
theorem Sys.wants_calls (g : Geo w0 V0 c b r q aA aB) (h : Sys w0 V0 c b r q aA aB P came x L LW pw LF pf vW vF W) {p : Nat} (hp : p < 2) (y : S61) {P0 : WN} {came0 : Int} (hL : L p = P0.map Prod.fst) (hf : P0.length ≤ 64) (hs1 : y.f2.f2.size ≤ 2147483648) (hs2 : y.f3.f1.size ≤ 2147483648) (hr : ∀ s ∈ P0, rightB s.1 = true) :
    Calls Tryz.prog 9 #[.pointer (some ⟨r p, 0, none⟩), .agg (encS7 y).toArray] W fun e w' => ∃ A1 n1 c1 A2 n2 c2 x', e = .returned (.agg #[.int .i64 (doneB P0 came0 y).e, .slice A1 n1 c1, .slice A2 n2 c2]) ∧ (∃ bF, Row encFd 5 bF 77 w' (.slice A1 n1 c1) (doneB P0 came0 y).fired) ∧ (∃ bW, Row encW 3 bW 57 w' (.slice A2 n2 c2) (doneB P0 came0 y).told) ∧
      Sys w0 V0 c b r q aA aB P came (upd x p x') (upd L p ((doneB P0 came0 y).left.map Prod.fst)) LW pw LF pf vW vF w' ∧ Only (fun k => k = r p ∨ (x p).ownBlock = some k) W w' := by
  have hrow := h.row hp
  rw [hL] at hrow
  have hR : RefI (r p) V0.heap.size (x p) (P0.map Prod.fst) W := ⟨h.ref p hp, hrow, (g.lr p hp).2, h.size, by rw [List.length_map]; exact hf⟩
  refine (Q.wants_calls (came := came0) y hR hs1 hs2 hr).mono ?_
  rintro e w' ⟨v1, v2, he, ⟨bF, h1⟩, ⟨bW, h2⟩, ho, x', h3, h4⟩
  obtain ⟨A1, c1, rfl, _⟩ := Bag.Row.slice h1
  obtain ⟨A2, c2, rfl, _⟩ := Bag.Row.slice h2
  exact ⟨A1, _, c1, A2, _, c2, x', he, ⟨bF, h1⟩, ⟨bW, h2⟩, h.wants g hp h3.blk h3.row ho h4, ho⟩
theorem Sys.keptW (h : Sys w0 V0 c b r q aA aB P came x L LW pw LF pf vW vF W) {p : Nat} (hp : p < 2) (ho : Only (fun k => k = r p ∨ (x p).ownBlock = some k) W W') {j : Nat} {cs : Array Value} {t : TypeId} {fr : Nat × Nat} (hj : W.heap[j]? = some (.cells cs t fr)) (h1 : t ≠ 82) (h2 : t ≠ 57) : W'.heap[j]? = some (.cells cs t fr) :=
  ho.blk hj (by
    rintro (rfl | e)
    · rw [h.ref p hp] at hj; cases hj; exact h1 rfl
    · obtain ⟨_, _, cs', h3⟩ := Row.typedQ (h.row hp) e
      rw [h3] at hj; cases hj; exact h2 rfl)
theorem Sys.keptAF (h : Sys w0 V0 c b r q aA aB P came x L LW pw LF pf vW vF W) (ho : Only (fun k => k = q ∨ vF.ownBlock = some k) W W') {j : Nat} {cs : Array Value} {t : TypeId} {fr : Nat × Nat} (hj : W.heap[j]? = some (.cells cs t fr)) (h1 : t ≠ 54) (h2 : t ≠ 63) : W'.heap[j]? = some (.cells cs t fr) :=
  ho.blk hj (by
    rintro (rfl | e)
    · rw [h.bag] at hj; cases hj; exact h1 rfl
    · obtain ⟨_, _, cs', h3⟩ := Row.typedQ h.outF e
      rw [h3] at hj; cases hj; exact h2 rfl)
theorem Sys.pendF (h : Sys w0 V0 c b r q aA aB P came x L LW pw LF pf vW vF W) {v : Value} {T : List S77} (hm : (v, T) ∈ LF ++ pf) : Row encFd 5 V0.heap.size 77 W v T := by
  have hmem : Bag.start v T ∈ (LF ++ pf).map fun y => Bag.start y.1 y.2 := List.mem_map.2 ⟨_, hm, rfl⟩
  obtain ⟨j, hj, e⟩ := List.getElem_of_mem hmem
  have := (h.fired.ok j hj).rv
  rw [e] at this
  exact this
theorem Sys.pendW (h : Sys w0 V0 c b r q aA aB P came x L LW pw LF pf vW vF W) {v : Value} {T : List S57} (hm : (v, T) ∈ LW ++ pw) : Row encW 3 V0.heap.size 57 W v T := by
  have hmem : Bag.start v T ∈ (rowsL x L (LW ++ pw)).map fun y => Bag.start y.1 y.2 := List.mem_map.2 ⟨_, List.mem_cons_of_mem _ (List.mem_cons_of_mem _ hm), rfl⟩
  obtain ⟨j, hj, e⟩ := List.getElem_of_mem hmem
  have := (h.rows.ok j hj).rv
  rw [e] at this
  exact this
end
/-- what the walk knows between two steps -/
structure Gh where
  P : Nat → WN
  came : Nat → Int
  x : Nat → Value
  LW : Lists S57
  LF : Lists S77
  vW : Value
  vF : Value
abbrev Gh.L (G : Gh) : Nat → List S57 := fun p => (G.P p).map Prod.fst
structure CallsI (w0 V0 : World) (c b r : Nat → Nat) (q aA aB : Nat) (G : Gh) (i : Nat) (W : World) : Prop where
  sys : Sys w0 V0 c b r q aA aB G.P G.came G.x G.L G.LW [] G.LF [] G.vW G.vF W
  came : ∀ p, p < 2 → G.came p ≤ (i : Int)
  right : ∀ p, p < 2 → ∀ s ∈ G.P p, rightB s.1 = true
  lw : G.LW.length ≤ 600
  lf : G.LF.length ≤ 600
  sw : ∀ y ∈ G.LW, y.2.length ≤ 64
  sf : ∀ y ∈ G.LF, y.2.length ≤ 64
theorem CallsI.mono {w0 V0 : World} {c b r : Nat → Nat} {q aA aB : Nat} {G : Gh} {i : Nat} {W : World} (h : CallsI w0 V0 c b r q aA aB G i W) : CallsI w0 V0 c b r q aA aB G (i + 1) W :=
  ⟨h.sys, fun p hp => by have := h.came p hp; omega, h.right, h.lw, h.lf, h.sw, h.sf⟩
theorem CallsI.below {w0 V0 : World} {c b r : Nat → Nat} {q aA aB : Nat} {G : Gh} {i : Nat} {W W' : World} (h : CallsI w0 V0 c b r q aA aB G i W) (hB : Below W.heap.size W W') : CallsI w0 V0 c b r q aA aB G i W' :=
  ⟨h.sys.below hB, h.came, h.right, h.lw, h.lf, h.sw, h.sf⟩
theorem rNew_calls (w : World) : Calls Tryz.prog 7 #[] w fun e w' => e = .returned (.pointer (some ⟨w.heap.size, 0, none⟩)) ∧ w'.heap[w.heap.size]? = some (.cells #[.slice none 0 0] 82 (0, 0)) ∧ Below w.heap.size w w' ∧ w.heap.size < w'.heap.size := by
  have hz := World.alloc_heap_new w (.cells #[.slice none 0 0] 82)
  have hB := below_alloc (Below.refl w.heap.size w) (.cells #[.slice none 0 0] 82)
  have HZ := Lib.hid (And.intro hz hB)
  clear hz hB
  go_enter Tryz.func7, Tryz.ntmps7
  go_wp2
  go_ret
  exact ⟨rfl, HZ.out.1, HZ.out.2, by simp⟩
theorem upd_self {β : Type} (f : Nat → β) (p : Nat) : upd f p (f p) = f := by
  funext k
  unfold upd
  split
  · rename_i e; rw [e]
  · rfl
theorem upd_map {P : Nat → WN} {p : Nat} {l : WN} : upd (fun s => (P s).map Prod.fst) p (l.map Prod.fst) = fun s => (upd P p l s).map Prod.fst := by
  funext k
  unfold upd
  split <;> rfl
/-- one more row of watches, which All has told -/
theorem Sys.told_all {w0 V0 : World} {c b r : Nat → Nat} {q aA aB : Nat} {P : Nat → WN} {came : Nat → Int} {x : Nat → Value} {L : Nat → List S57} {LW pw : Lists S57} {LF : Lists S77} {vW vF : Value} {W W' : World} (g : Geo w0 V0 c b r q aA aB) (h : Sys w0 V0 c b r q aA aB P came x L LW pw LF [] vW vF W) {p : Nat} (hp : p < 2) (hB : Below W.heap.size W W') {v : Value} {T : List S57} (h1 : Row encW 3 W.heap.size 57 W' v T) :
    Sys w0 V0 c b r q aA aB P came x L LW (pw ++ [(v, T)]) LF [] vW vF W' := by
  have h2 := h.does g hp ((h.brd p hp).below hB) (Only.of_below hB) h1 (row_nil encFd 5 W.heap.size 77 W')
  rw [upd_self, upd_self, List.nil_append] at h2
  exact h2.dropF
theorem Sys.refI {w0 V0 : World} {c b r : Nat → Nat} {q aA aB : Nat} {P : Nat → WN} {came : Nat → Int} {x : Nat → Value} {L : Nat → List S57} {LW pw : Lists S57} {LF pf : Lists S77} {vW vF : Value} {W : World} (g : Geo w0 V0 c b r q aA aB) (h : Sys w0 V0 c b r q aA aB P came x L LW pw LF pf vW vF W) {p : Nat} (hp : p < 2) (hf : (L p).length ≤ 64) : RefI (r p) V0.heap.size (x p) (L p) W :=
  ⟨h.ref p hp, h.row hp, (g.lr p hp).2, h.size, hf⟩
/-- what is left to look at behind the bag -/
structure FinI (w0 V0 : World) (c b r : Nat → Nat) (aA aB : Nat) (P : Nat → WN) (came : Nat → Int) (x : Nat → Value) (W : World) : Prop where
  bel : Below w0.heap.size w0 W
  brd : ∀ p, p < 2 → Brd (c p) (b p) (came p) (P p) W
  ref : ∀ p, p < 2 → RefI (r p) V0.heap.size (x p) ((P p).map Prod.fst) W
  arrA : W.heap[aA]? = some (.cells #[.pointer (some ⟨c 0, 0, none⟩), .pointer (some ⟨c 1, 0, none⟩)] 27 (0, 0))
  arrB : W.heap[aB]? = some (.cells #[.pointer (some ⟨r 0, 0, none⟩), .pointer (some ⟨r 1, 0, none⟩)] 30 (0, 0))
theorem FinI.below {w0 V0 : World} {c b r : Nat → Nat} {aA aB : Nat} {P : Nat → WN} {came : Nat → Int} {x : Nat → Value} {W W' : World} (h : FinI w0 V0 c b r aA aB P came x W) (hB : Below W.heap.size W W') : FinI w0 V0 c b r aA aB P came x W' :=
  ⟨below_step h.bel hB, fun p hp => (h.brd p hp).below hB, fun p hp => (h.ref p hp).below hB, blkK h.arrA hB, blkK h.arrB hB⟩
theorem Sys.fin {w0 V0 : World} {c b r : Nat → Nat} {q aA aB : Nat} {P : Nat → WN} {came : Nat → Int} {x : Nat → Value} {LW : Lists S57} {LF : Lists S77} {vW vF : Value} {W W' : World} (g : Geo w0 V0 c b r q aA aB) (h : Sys w0 V0 c b r q aA aB P came x (fun s => (P s).map Prod.fst) LW [] LF [] vW vF W)
    (ho : Only (fun k => OwnOf LW k ∨ OwnOf LF k) W W') : FinI w0 V0 c b r aA aB P came x W' := by
  have hw : ∀ k, OwnOf LW k → ∃ y ∈ LW, y.1.ownBlock = some k := fun k ⟨j, hj, e⟩ => ⟨_, List.getElem_mem hj, e⟩
  have hf : ∀ k, OwnOf LF k → ∃ y ∈ LF, y.1.ownBlock = some k := fun k ⟨j, hj, e⟩ => ⟨_, List.getElem_mem hj, e⟩
  have tw : ∀ k, OwnOf LW k → V0.heap.size ≤ k ∧ ∃ cs, W.heap[k]? = some (.cells cs 57 (0, 0)) := fun k hk => by
    obtain ⟨y, hy, e⟩ := hw k hk
    obtain ⟨h1, _, h3⟩ := Row.typedQ (h.pendW (v := y.1) (T := y.2) (by simpa using hy)) e
    exact ⟨h1, h3⟩
  have tf : ∀ k, OwnOf LF k → V0.heap.size ≤ k ∧ ∃ cs, W.heap[k]? = some (.cells cs 77 (0, 0)) := fun k hk => by
    obtain ⟨y, hy, e⟩ := hf k hk
    obtain ⟨h1, _, h3⟩ := Row.typedQ (h.pendF (v := y.1) (T := y.2) (by simpa using hy)) e
    exact ⟨h1, h3⟩
  have lt : ∀ j, j < V0.heap.size → ¬ (OwnOf LW j ∨ OwnOf LF j) := fun j hj => by
    rintro (e | e)
    · have := (tw j e).1; omega
    · have := (tf j e).1; omega
  refine ⟨ho.from h.bel (fun k hk => Nat.le_trans g.lv (by rcases hk with e | e; exact (tw k e).1; exact (tf k e).1)), fun p hp => (h.brd p hp).onlyN ho (lt _ (g.lc p hp).2) (lt _ (g.lb p hp).2), fun p hp => ?_, ho.blk h.arrA (lt _ g.la.1), ho.blk h.arrB (lt _ g.la.2)⟩
  refine (h.refI g hp (by rw [List.length_map]; exact (h.brd p hp).few)).onlyN ho (lt _ (g.lr p hp).2) fun k hk => ?_
  rintro (e | e)
  · obtain ⟨y, hy, e2⟩ := hw k e
    have hb := (Bag.bagI_iff.1 h.rows).2
    have hy2 : y ∈ LW ++ [] := by simpa using hy
    rcases two_cases' hp with rfl | rfl
    · rw [List.map_cons, List.pairwise_cons] at hb
      exact hb.1 (Bag.start y.1 y.2) (List.mem_map.2 ⟨y, List.mem_cons_of_mem _ hy2, rfl⟩) k (Bag.start_has.2 hk) (Bag.start_has.2 e2)
    · rw [List.map_cons, List.pairwise_cons, List.map_cons, List.pairwise_cons] at hb
      exact hb.2.1 (Bag.start y.1 y.2) (List.mem_map.2 ⟨y, hy2, rfl⟩) k (Bag.start_has.2 hk) (Bag.start_has.2 e2)
  · obtain ⟨_, _, cs, h3⟩ := Row.typedQ (h.row hp) hk
    obtain ⟨_, cs', h4⟩ := tf k e
    rw [h3] at h4
    have h5 := (Obj.cells.inj (Option.some.inj h4)).2.1
    exact absurd h5 (by decide)
end Go.Proofs.YtkhnjckkjdldbaaGreatDoor.Q
