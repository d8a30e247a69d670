import Derived.Test.YtkmpbnicofiehaaRows
import Derived.Test.YtkmpbnicofiehaaWWords
import Derived.WalkKit
import Derived.Handy
import Derived.Lib.Hide
import Derived.WalkLawsBesides
import Derived.WalkSpells
import Derived.Outline
import Derived.StillTailTactics
import Derived.RegionTactic
import Derived.BigQuiet
import Derived.Deep.OwnRows
import Derived.Deep.RegionHeld3
import Derived.Deep.AppendLies
import Derived.Deep.DrawnRows
import Derived.Lib.QuietBelow
import Derived.Maps.OwnSet
import Derived.Maps.RangeWalk
import Derived.Maps.Views
namespace Go.Proofs.Ytkmpbnicofiehaa.Q
open Go.RowKit Go.Proofs.YtkmpbnicofiehaaW.PrintWords Go.Deep Go.Maps Go.WideShapes
set_option linter.unusedVariables false
set_option linter.unusedSimpArgs false

/-- Of what was there only the blocks of S may have turned. -/
structure Only (S : Nat → Prop) (w w' : World) : Prop where
  os : w'.os = w.os
  tape : w'.tape = w.tape
  output : w'.output = w.output
  size : w.heap.size ≤ w'.heap.size
  block : ∀ k, k < w.heap.size → ¬ S k → w'.heap[k]? = w.heap[k]?
theorem Only.refl (S : Nat → Prop) (w : World) : Only S w w := ⟨rfl, rfl, rfl, Nat.le_refl _, fun _ _ _ => rfl⟩
theorem Only.of_below {S : Nat → Prop} {w w' : World} (h : Below w.heap.size w w') : Only S w w' := ⟨h.os, h.tape, h.output, h.size, fun k hk _ => h.block k hk⟩
theorem Only.below {S : Nat → Prop} {w w' : World} (h : Only S w w') (hs : ∀ k, k < w.heap.size → ¬ S k) : Below w.heap.size w w' := ⟨h.os, h.tape, h.output, h.size, fun k hk => h.block k hk (hs k hk)⟩
/-- a frame from an earlier world on -/
theorem Only.from {S : Nat → Prop} {w0 w w' : World} (h : Only S w w') (hB : Below w0.heap.size w0 w) (hs : ∀ k, S k → w0.heap.size ≤ k) : Below w0.heap.size w0 w' :=
  ⟨h.os.trans hB.os, h.tape.trans hB.tape, h.output.trans hB.output, Nat.le_trans hB.size h.size, fun k hk => (h.block k (Nat.lt_of_lt_of_le hk hB.size) (fun s => by have := hs k s; omega)).trans (hB.block k hk)⟩
theorem Only.trans {S T : Nat → Prop} {a b c : World} (h : Only S a b) (k : Only T b c) (hs : ∀ i, i < a.heap.size → T i → S i) : Only S a c :=
  ⟨k.os.trans h.os, k.tape.trans h.tape, k.output.trans h.output, Nat.le_trans h.size k.size, fun i hi hn => (k.block i (Nat.lt_of_lt_of_le hi h.size) (fun ht => hn (hs i hi ht))).trans (h.block i hi hn)⟩
theorem Only.then_below {S : Nat → Prop} {a b c : World} (h : Only S a b) (k : Below b.heap.size b c) : Only S a c := h.trans (T := fun _ => False) (Only.of_below k) (fun _ _ => False.elim)
theorem Only.drew {S : Nat → Prop} {a b : World} (h : Only S a b) : Only S a b.drew := ⟨h.os, h.tape, h.output, h.size, h.block⟩
theorem Only.drewN {S : Nat → Prop} {a b : World} (h : Only S a b) (n : Nat) : Only S a (b.drewN n) := ⟨h.os, h.tape, h.output, h.size, h.block⟩
theorem Only.setCell {S : Nat → Prop} {a b : World} (h : Only S a b) {p : Addr} (hp : S p.block ∨ a.heap.size ≤ p.block) (u : Value) : Only S a (b.setCell p u) :=
  h.trans (T := fun k => k = p.block) ⟨rfl, rfl, rfl, by simp [World.setCell], fun k _ hk => Below.heap_setCell _ _ _ _ hk⟩ (fun i hi e => by subst e; rcases hp with hp | hp; exact hp; omega)
theorem Only.mono {S T : Nat → Prop} {w w' : World} (h : Only S w w') (hs : ∀ k, k < w.heap.size → S k → T k) : Only T w w' := ⟨h.os, h.tape, h.output, h.size, fun k hk hn => h.block k hk (fun x => hn (hs k hk x))⟩
theorem Only.keep {S : Nat → Prop} {w w' : World} (h : Only S w w') {k : Nat} (hk : k < w.heap.size) (hn : ¬ S k) : w'.heap[k]? = w.heap[k]? := h.block k hk hn
theorem Only.cell {S : Nat → Prop} {w w' : World} (h : Only S w w') {p : Addr} {v : Value} (hc : w.cell? p = some v) (hn : ¬ S p.block) : w'.cell? p = some v :=
  (World.cell?_of_block (w := w) (h.block p.block (World.block_lt_of_cell? w p hc) hn)).trans hc
theorem Only.setCells {S : Nat → Prop} {a : World} (k : Nat) (hp : S k ∨ a.heap.size ≤ k) (vs : List Value) : ∀ (o : Nat) {b : World}, Only S a b → Only S a (b.setCells k o vs) := by
  induction vs with
  | nil => intro o b h; exact h
  | cons v vs ih => intro o b h; exact ih (o + 1) (h.setCell (p := ⟨k, o, none⟩) hp v)


/-! A CLOCK IN MEMORY -/
/-- how a life reads -/
def lifeL : List Value → Option (DataW Unit × List MemPlace)
  | [.int .i32 t, .int .i64 d] => if (Lit.int .i32 t).wf = true ∧ (Lit.int .i64 d).wf = true then some (.agg [.lit (.int .i32 t), .lit (.int .i64 d)], []) else none
  | _ => none
def lifeR : Value → Option (DataW Unit × List MemPlace)
  | .agg a => lifeL a.toList
  | _ => none
theorem lifeR_mk {t d : Int} (h1 : (Lit.int .i32 t).wf = true) (h2 : (Lit.int .i64 d).wf = true) : lifeR (.agg #[.int .i32 t, .int .i64 d]) = some (.agg [.lit (.int .i32 t), .lit (.int .i64 d)], []) := by simp [lifeR, lifeL, h1, h2]
theorem lifeR_inv {v : Value} {z : DataW Unit × List MemPlace} (h : lifeR v = some z) : ∃ t d, v = .agg #[.int .i32 t, .int .i64 d] ∧ z = (.agg [.lit (.int .i32 t), .lit (.int .i64 d)], []) ∧ (Lit.int .i32 t).wf = true ∧ (Lit.int .i64 d).wf = true := by
  cases v with
  | agg a =>
    have h' : lifeL a.toList = some z := h
    obtain ⟨l, hl⟩ : ∃ l, a.toList = l := ⟨_, rfl⟩
    have ha : a = l.toArray := by rw [← hl]
    rw [hl] at h'
    unfold lifeL at h'
    split at h'
    · rename_i t d
      split at h'
      · rename_i hw; cases h'; exact ⟨t, d, by rw [ha], rfl, hw.1, hw.2⟩
      · cases h'
    · cases h'
  | _ => cases h
/-- who lives, with a time-out and a tick at which it is over -/
def look (D : DataW Unit) (i : Int) : Option (Int × Int) :=
  if has D (.int .i64 i) then (match D.atKey (.int .i64 i) (.lit (.bool false)) with
    | .agg [.lit (.int .i32 t), .lit (.int .i64 d)] => some (t, d)
    | _ => none) else none
def clockCells (now span : Int) (b s : Nat) : Array Value := #[.int .i64 now, .int .i64 span, .map (some b), .func (.func 16) #[] #[.pointer (some ⟨s, 0, none⟩)]]
/-- a clock at block c: its map at b, the box of its span at s -/
structure Clk (c b s : Nat) (now span : Int) (n : Nat) (D : DataW Unit) (W : World) : Prop where
  cells : W.heap[c]? = some (.cells (clockCells now span b s) 46 (0, 0))
  box : W.heap[s]? = some (.cells #[.int .i64 span] 3 (0, 0))
  map : W.ownsMap Try.prog 2 lifeR b n D
theorem keyed2 : Keyed Try.prog 2 := int_keyed Try.underlying2
theorem cell_row {W : World} {g k : Nat} {t : TypeId} {cs : Array Value} {v : Value} (h : W.heap[g]? = some (.cells cs t (0, 0))) (hk : cs[k]? = some v) : W.cell? ⟨g, k, none⟩ = some v := (cell_of_row W g k _ _ _ h).trans hk
def roundUp (tick span : Int) : Int := (tick + span - 1) / span * span
/-! NO CLOCK, A CLOCK -/
theorem none_nil (w : World) : Calls Try.prog 17 #[.pointer none] w fun e w' => e = .returned (.bool true) ∧ w' = w := by
  go_enter Try.func17, Try.ntmps17
  go_wp2
  go_ret
  exact ⟨rfl, rfl⟩
theorem none_clk {c b s n : Nat} {now span : Int} {D : DataW Unit} {w : World} (h : Clk c b s now span n D w) (h1 : 1 ≤ span) : Calls Try.prog 17 #[.pointer (some ⟨c, 0, none⟩)] w fun e w' => e = .returned (.bool false) ∧ w' = w := by
  have x1 := cell_row (k := 1) (v := .int .i64 span) h.cells rfl
  have q0 : (span == 0) = false := by rw [beq_eq_false_iff_ne]; omega
  clear h
  go_enter Try.func17, Try.ntmps17
  go_wp2
  go_ret
  exact ⟨rfl, rfl⟩
theorem up_calls (tick span : Int) (s : Nat) (w : World) (hs : w.heap[s]? = some (.cells #[.int .i64 span] 3 (0, 0))) (h1 : 1 ≤ span) (h2 : span ≤ 1000) (t0 : 0 ≤ tick) (t1 : tick ≤ 1099511627776) :
    Calls Try.prog 16 #[.int .i64 tick, .pointer (some ⟨s, 0, none⟩)] w fun e w' => e = .returned (.int .i64 (roundUp tick span)) ∧ Below w.heap.size w w' := by
  have x1 := cell_row (k := 0) (v := .int .i64 span) hs rfl
  go_enter Try.func16, Try.ntmps16
  have q0 : (span == 0) = false := by rw [beq_eq_false_iff_ne]; omega
  have m1 : (tick + span - 1) / span * span ≤ tick + span - 1 := Int.ediv_mul_le _ (by omega)
  have m0 : 0 ≤ (tick + span - 1) / span := Int.ediv_nonneg (by omega) (by omega)
  have m2 : 0 ≤ (tick + span - 1) / span * span := Int.mul_nonneg m0 (by omega)
  have m3 : (tick + span - 1) / span ≤ tick + span - 1 := Int.ediv_le_self _ (by omega)
  go_wp2_with fail
  have y1 := cell_regrown x1
  refine wp_region_quiet_below (by kernel_rfl) (by kernel_rfl) ?_
  repeat (go_big_quiet_step (fail))
  refine wpQuiet_nil ?_
  intro _ hw'
  obtain ⟨⟨dq, osq⟩, hw''⟩ := hw'
  subst hw''
  go_wp2
  go_ret
  exact ⟨rfl, below_regrown w dq osq⟩
end Go.Proofs.Ytkmpbnicofiehaa.Q
