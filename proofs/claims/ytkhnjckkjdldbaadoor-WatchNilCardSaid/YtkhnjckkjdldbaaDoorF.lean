import Derived.Test.YtkhnjckkjdldbaaDoorE
import Derived.RangeFuncBox
import Derived.RangeFuncLeaves
import Derived.RangeFuncNested
import Derived.RangeFuncWrites
import Derived.Shelf.Abstract
import Derived.OwnWalkIn
import Derived.TacticsInMore
import Derived.LoopNIn
import Derived.LoopIn
namespace Go.Proofs.YtkhnjckkjdldbaaDoor.Q
open Go.RowKit Go.Shelf Go.Proofs.YtkhnjckkjdldbaaDoorW.PrintWords Go.Proofs.YtkhnjckkjdldbaaDoor.Pr
set_option linter.unusedVariables false
set_option linter.unusedSimpArgs false
attribute [local go_sem] Oper.semAt_some

/-- Of what was there only the blocks of S may have turned. -/
structure Only (S : Nat → Prop) (w w' : World) : Prop where
  os : w'.os = w.os
  tape : w'.tape = w.tape
  output : w'.output = w.output
  size : w.heap.size ≤ w'.heap.size
  block : ∀ k, k < w.heap.size → ¬ S k → w'.heap[k]? = w.heap[k]?
theorem Only.refl (S : Nat → Prop) (w : World) : Only S w w := ⟨rfl, rfl, rfl, Nat.le_refl _, fun _ _ _ => rfl⟩
theorem Only.of_below {S : Nat → Prop} {w w' : World} (h : Below w.heap.size w w') : Only S w w' := ⟨h.os, h.tape, h.output, h.size, fun k hk _ => h.block k hk⟩
/-- a frame from an earlier world on -/
theorem Only.from {S : Nat → Prop} {w0 w w' : World} (h : Only S w w') (hB : Below w0.heap.size w0 w) (hs : ∀ k, S k → w0.heap.size ≤ k) : Below w0.heap.size w0 w' :=
  ⟨h.os.trans hB.os, h.tape.trans hB.tape, h.output.trans hB.output, Nat.le_trans hB.size h.size, fun k hk => (h.block k (Nat.lt_of_lt_of_le hk hB.size) (fun s => by have := hs k s; omega)).trans (hB.block k hk)⟩
theorem Only.trans {S T : Nat → Prop} {a b c : World} (h : Only S a b) (k : Only T b c) (hs : ∀ i, i < a.heap.size → T i → S i) : Only S a c :=
  ⟨k.os.trans h.os, k.tape.trans h.tape, k.output.trans h.output, Nat.le_trans h.size k.size, fun i hi hn => (k.block i (Nat.lt_of_lt_of_le hi h.size) (fun ht => hn (hs i hi ht))).trans (h.block i hi hn)⟩
theorem Only.then_below {S : Nat → Prop} {a b c : World} (h : Only S a b) (k : Below b.heap.size b c) : Only S a c := h.trans (T := fun _ => False) (Only.of_below k) (fun _ _ => False.elim)
theorem Only.drew {S : Nat → Prop} {a b : World} (h : Only S a b) : Only S a b.drew := ⟨h.os, h.tape, h.output, h.size, h.block⟩
theorem Only.setCell {S : Nat → Prop} {a b : World} (h : Only S a b) {p : Addr} (hp : S p.block ∨ a.heap.size ≤ p.block) (u : Value) : Only S a (b.setCell p u) :=
  h.trans (T := fun k => k = p.block) ⟨rfl, rfl, rfl, by simp [World.setCell], fun k _ hk => Below.heap_setCell _ _ _ _ hk⟩ (fun i hi e => by subst e; rcases hp with hp | hp; exact hp; omega)
theorem Only.mono {S T : Nat → Prop} {w w' : World} (h : Only S w w') (hs : ∀ k, k < w.heap.size → S k → T k) : Only T w w' := ⟨h.os, h.tape, h.output, h.size, fun k hk hn => h.block k hk (fun x => hn (hs k hk x))⟩
theorem Only.keep {S : Nat → Prop} {w w' : World} (h : Only S w w') {k : Nat} (hk : k < w.heap.size) (hn : ¬ S k) : w'.heap[k]? = w.heap[k]? := h.block k hk hn
theorem Only.cell {S : Nat → Prop} {w w' : World} (h : Only S w w') {p : Addr} {v : Value} (hc : w.cell? p = some v) (hn : ¬ S p.block) : w'.cell? p = some v :=
  (World.cell?_of_block (w := w) (h.block p.block (World.block_lt_of_cell? w p hc) hn)).trans hc
theorem Only.putObj {S : Nat → Prop} {w W : World} (h : Only S w W) {l : Nat} (hl : S l) (o : Obj) : Only S w (W.putObj l o) :=
  h.trans (T := fun k => k = l) (by
    have g := grownBy_putObj' W l o
    exact ⟨g.os, g.tape, g.output, g.size, fun k hk hn => g.block k hk (fun e => hn (Option.some.inj e))⟩) (fun i _ e => e ▸ hl)
theorem Only.blk {S : Nat → Prop} {w w' : World} (h : Only S w w') {k : Nat} {o : Obj} (hk : w.heap[k]? = some o) (hn : ¬ S k) : w'.heap[k]? = some o := (h.keep (Array.getElem?_eq_some_iff.1 hk).1 hn).trans hk
theorem keepsFrom_putObj {B : Nat} (W : World) {l : Nat} (hl : l < B) (o : Obj) : KeepsFrom B W (W.putObj l o) := .of_grownBy (grownBy_putObj' W l o) (fun j e => by cases e; exact hl)
theorem keepsFrom_mono {A B : Nat} {W W' : World} (h : KeepsFrom A W W') (hAB : A ≤ B) : KeepsFrom B W W' := ⟨h.size, fun k o hk => h.same k o (Nat.le_trans hAB hk)⟩
theorem grown_kept {W W' : World} {row : Option Nat} {B k : Nat} {o : Obj} (hg : W.grownBy W' row) (hr : ∀ r, row = some r → B ≤ r) (hk : W.heap[k]? = some o) (hB : k < B) : W'.heap[k]? = some o :=
  (hg.block k (Array.getElem?_eq_some_iff.1 hk).1 (fun e => by have := hr k e.symm; omega)).trans hk
theorem grown_of_below {W W' : World} (h : Below W.heap.size W W') : W.grownBy W' none := ⟨h.os, h.tape, h.output, h.size, fun k hk _ => h.block k hk⟩

/-! AN ITERATOR WITH STATE OF ITS OWN IN CELLS -/
/-- It reads the blocks Zr and turns those of Zw among them; a round keeps the blocks Zr. -/
def GivesZ {α : Type} (F : Fence) (n : Nat) (P : Program) (gf : Nat) (lb : Array Value) (encs : α → Array Value) (Zr Zw : Nat → Prop) (N : Nat) (Q : List α → α → Prop) (Done Part : List α → Prop) (Pre : World → Prop) : Prop :=
  ∀ (l : Nat) (J Jx : List α → World → Prop) (W : World), Pre W → (∀ k, Zr k → k < W.heap.size) →
    OwnFrom W.heap.size J → OwnFrom W.heap.size Jx → (∀ s A C, J s A → Only Zw A C → J s C) →
    (∀ pre x A, J pre A → pre.length < N → Q pre x → YieldAt F (n - 1) P l (encs x) A fun e C =>
      (e = .returned (.bool true) ∧ J (pre ++ [x]) C ∧ Only (fun k => ¬ Zr k) A C) ∨ (e = .returned (.bool false) ∧ Jx (pre ++ [x]) C)) →
    J [] W →
    CallsIn F n P gf (#[.func (.yield l) #[] #[]] ++ lb) W fun e C => (∃ v, e = .returned v) ∧ ((∃ xs, Done xs ∧ J xs C) ∨ (∃ pre, Part pre ∧ Jx pre C))
/-- how a round's body may be left -/
def leavePost {α : Type} (B : Nat) (S : Nat → Prop) (I : List α → World → Prop) (Ix : Code → List α → World → Prop) (xs : List α) (W : World) : Exit → Act → World → Prop
  | .normal, _, C => KeepsFrom B W C ∧ Only S W C ∧ I xs C
  | .ret, _, C => KeepsFrom B W C ∧ Ix .ret xs C
  | .exit id, _, C => KeepsFrom B W C ∧ Ix (.exit id) xs C
  | .goto t, _, C => KeepsFrom B W C ∧ Ix (.goto t) xs C
  | _, _, _ => False
/-- the range over such an iterator -/
theorem range_z {F : Fence} {n : Nat} {P : Program} {α : Type} {g : Operand} {ps : Array Tmp} {assign body : Code} {Q : Exit → Act → World → Prop} {a : Act} {w : World}
    (hro : F.round = none) (h1 : 1 ≤ n) {gf : Nat} {lb : Array Value} (hg : a.eval g = .func (.func gf) #[] lb) (hFg : F.fn gf) (eg : ∀ args w, (callFunc gf args).run P w = .ok (.enter gf args) w)
    {encs : α → Array Value} {Zr Zw : Nat → Prop} {N : Nat} {Qx : List α → α → Prop} {Done Part : List α → Prop} {Pre : World → Prop} (hseq : GivesZ F (n - 1) P gf lb encs Zr Zw N Qx Done Part Pre)
    (hPre : ∀ W, Below w.heap.size w W → Pre W) (hps : ∀ x, (encs x).size = ps.size) (hZ : ∀ k, Zr k → k < w.heap.size) (hZw : ∀ k, Zw k → Zr k)
    (I : List α → World → Prop) (Ix : Code → List α → World → Prop) (hI : OwnFrom w.heap.size I) (hIx : ∀ c, OwnFrom w.heap.size (Ix c)) (hIz : ∀ s A C, I s A → Only Zw A C → I s C) (h0 : I [] w)
    (hex : ∃ a₁ : α → Act,
      (∀ (l : Nat) (x : α) (W : World) (K : Act → World → Prop), K (a₁ x) W →
        assign.wpIn (F.inRound l) (n - 1 - 1) P (Exit.then K (fun _ _ _ => False)) { tmps := (ps.zip (encs x)).foldl (fun t (p, v) => t.setIfInBounds p v) a.tmps, defers := [] } W) ∧
      (∀ (l : Nat) (pre : List α) (x : α) (W : World), I pre W → pre.length < N → Qx pre x →
        body.wpIn (F.inRound l) (n - 1 - 1) P (leavePost w.heap.size (fun k => ¬ Zr k) I Ix (pre ++ [x]) W) (a₁ x) W))
    (hdone : ∀ (xs : List α) (W : World), Done xs → I xs W → W.heap[w.heap.size]? = some (.deferred (some [])) → Q .normal { a with defers := { target := .collected w.heap.size, args := #[] } :: a.defers } W)
    (hstop : ∀ (c : Code) (pre : List α) (W : World), Part pre → Ix c pre W → W.heap[w.heap.size]? = some (.deferred (some [])) → c.wpIn F n P Q { a with defers := { target := .collected w.heap.size, args := #[] } :: a.defers } W) :
    (Code.rangeFunc g ps assign body).wpIn F n P Q a w := by
  obtain ⟨a₁, hassign, hbody⟩ := hex
  refine wpIn_rangeFunc fun fn hfn => ?_
  rw [hro]
  let R : LoopState → Option Code → Obj := fun st pe => .loop { state := st, pending := pe, fn, tmps := a.tmps, params := ps, assign, body, defers := w.heap.size }
  let Mine : LoopState → Option Code → World → Prop := fun st pe W => W.heap[w.heap.size + 1]? = some (R st pe) ∧ W.heap[w.heap.size]? = some (.deferred (some []))
  let V := (w.alloc (.deferred (some []))).alloc (R .ready none)
  have hV : V.heap.size = w.heap.size + 2 := by simp [V]
  have bV : Below w.heap.size w V := below_alloc (below_alloc (Below.refl _ w) _) _
  have mV : Mine .ready none V := ⟨by have := World.alloc_heap_new (w.alloc (.deferred (some []))) (R .ready none); rwa [World.size_alloc] at this, (Below.heap_alloc _ _ _ (by simp)).trans (World.alloc_heap_new w _)⟩
  have turn : ∀ {st : LoopState} {pe : Option Code} {W : World} (st' : LoopState) (pe' : Option Code), Mine st pe W → Mine st' pe' (W.putObj (w.heap.size + 1) (R st' pe')) := fun st' pe' h =>
    ⟨World.putObj_heap_same (Array.getElem?_eq_some_iff.1 h.1).1, (World.putObj_heap_other (by omega)).trans h.2⟩
  refine ⟨w.heap.size + 1, [{ target := .collected w.heap.size, args := #[] }], V, { target := .fn (.func gf) lb, args := #[.func (.yield (w.heap.size + 1)) #[] #[]] }, V, gf,
    #[.func (.yield (w.heap.size + 1)) #[] #[]] ++ lb, V, run_enterLoop_outer _ _ _ _ _, ?_, ?_, ?_, fun _ => h1, ?_⟩
  · simp only [resolve, hg]
    simp [go_sem]
  · intro f' hf'; simp [Target.leads] at hf'; subst hf'; exact hFg
  · simp [invoke, go_sem, eg]
  refine (hseq (w.heap.size + 1) (fun xs W => I xs W ∧ Mine .ready none W) (fun xs W => ∃ c, Ix c xs W ∧ Mine .done (some c) W) V
    (hPre V bV) (fun k hk => by have := hZ k hk; omega) ?hOwn ?hOwnX ?hOnly ?round ⟨hI.alloc _ (hI.alloc _ h0), mV⟩).mono ?behind
  case hOwn =>
    rw [hV]
    rintro s A C row ⟨hi, hm⟩ hgr hr
    exact ⟨hI s A C row hi hgr (fun r e => ⟨by have := (hr r e).1; omega, (hr r e).2⟩), grown_kept hgr (fun r e => (hr r e).1) hm.1 (by omega), grown_kept hgr (fun r e => (hr r e).1) hm.2 (by omega)⟩
  case hOwnX =>
    rw [hV]
    rintro s A C row ⟨c, hi, hm⟩ hgr hr
    exact ⟨c, hIx c s A C row hi hgr (fun r e => ⟨by have := (hr r e).1; omega, (hr r e).2⟩), grown_kept hgr (fun r e => (hr r e).1) hm.1 (by omega), grown_kept hgr (fun r e => (hr r e).1) hm.2 (by omega)⟩
  case hOnly =>
    rintro s A C ⟨hi, hm⟩ ho
    have n0 : ¬ Zw w.heap.size := fun z => by have := hZ _ (hZw _ z); omega
    have n1 : ¬ Zw (w.heap.size + 1) := fun z => by have := hZ _ (hZw _ z); omega
    exact ⟨hIz s A C hi ho, ho.blk hm.1 n1, ho.blk hm.2 n0⟩
  case round =>
    rintro pre x A ⟨hi, hm⟩ hlen hqx
    have n1 : ¬ Zr (w.heap.size + 1) := fun z => by have := hZ _ z; omega
    have hy := run_yield (P := P) (args := encs x) hm.1 (hps x)
    refine ⟨fn, _, assign, body, hy, roundIn_of_wpIn hfn (hassign _ x A _ ⟨_, run_beginRound hm.1 rfl, ?_⟩)⟩
    have hm2 := turn .busy none hm
    have o2 : Only (fun k => ¬ Zr k) A (A.putObj (w.heap.size + 1) (R .busy none)) := (Only.refl _ A).putObj n1 _
    refine wpIn_mono (hbody _ pre x _ (hI.putObj _ hi (by omega) hm.1 rfl) hlen hqx) ?_
    intro e a3 C hp
    have fin : ∀ (jump : Option Code), KeepsFrom w.heap.size (A.putObj (w.heap.size + 1) (R .busy none)) C → Mine .busy none C := fun jump hk =>
      ⟨hk.same _ _ (by omega) hm2.1 rfl, hk.same _ _ (Nat.le_refl _) hm2.2 rfl⟩
    cases e with
    | normal =>
      obtain ⟨hk, ho, hi3⟩ := hp
      have hm3 := fin none hk
      refine ⟨_, _, run_endRound (P := P) none hm3.1, .inl ⟨rfl, ⟨hI.putObj _ hi3 (by omega) hm3.1 rfl, turn .ready none hm3⟩, (o2.trans ho (fun _ _ h => h)).putObj n1 _⟩⟩
    | ret =>
      obtain ⟨hk, hi3⟩ := hp
      have hm3 := fin (some .ret) hk
      exact ⟨_, _, run_endRound (P := P) (some .ret) hm3.1, .inr ⟨rfl, .ret, (hIx _).putObj _ hi3 (by omega) hm3.1 rfl, turn .done (some .ret) hm3⟩⟩
    | exit id =>
      obtain ⟨hk, hi3⟩ := hp
      have hm3 := fin (some (.exit id)) hk
      exact ⟨_, _, run_endRound (P := P) (some (.exit id)) hm3.1, .inr ⟨rfl, .exit id, (hIx _).putObj _ hi3 (by omega) hm3.1 rfl, turn .done (some (.exit id)) hm3⟩⟩
    | goto t =>
      obtain ⟨hk, hi3⟩ := hp
      have hm3 := fin (some (.goto t)) hk
      exact ⟨_, _, run_endRound (P := P) (some (.goto t)) hm3.1, .inr ⟨rfl, .goto t, (hIx _).putObj _ hi3 (by omega) hm3.1 rfl, turn .done (some (.goto t)) hm3⟩⟩
    | panic ch => exact hp.elim
    | outgrown => exact hp.elim
  case behind =>
    rintro e C ⟨⟨v, rfl⟩, (⟨xs, hd, hi, hm⟩ | ⟨pre, hpt, c, hi, hm⟩)⟩
    · exact ⟨none, _, run_endLoop (P := P) hm.1 (by simp), hdone xs _ hd (hI.putObj _ hi (by omega) hm.1 rfl) ((World.putObj_heap_other (by omega)).trans hm.2)⟩
    · exact ⟨some c, _, run_endLoop (P := P) hm.1 (by simp), hstop c pre _ hpt ((hIx c).putObj _ hi (by omega) hm.1 rfl) ((World.putObj_heap_other (by omega)).trans hm.2)⟩
end Go.Proofs.YtkhnjckkjdldbaaDoor.Q
