import Derived.Test.YteajaakhdnlpeaaPCacheBehindx0
import Derived.WalkKit
import Derived.Handy
import Derived.Lib.Hide
import Derived.WalkLawsBesides
import Derived.WalkSpells
import Derived.Outline
import Derived.StillTailTactics
import Derived.RegionTactic
import Derived.BigQuiet
import Derived.Deep.MidRow
import Derived.Deep.OwnRows
import Derived.Deep.RegionHeld3
import Derived.Deep.AppendLies
import Derived.Deep.DrawnRows
namespace Go.Proofs.Yteajaakhdnlpeaa.Q
open Go.RowKit Go.Proofs.YteajaakhdnlpeaaW.PrintWords Go.Deep
set_option linter.unusedVariables false
set_option linter.unusedSimpArgs false

theorem calls_eq {P : Program} {f : FuncId} {args : Array Value} {w : World} {v v' : Value} {R : World → Prop} (h : Calls P f args w fun e w' => e = .returned v ∧ R w') (hv : v = v') : Hid (Calls P f args w fun e w' => e = .returned v' ∧ R w') := hv ▸ h

/-- Of what was there only the blocks of S may have turned. -/
structure Only (S : Nat → Prop) (w w' : World) : Prop where
  os : w'.os = w.os
  tape : w'.tape = w.tape
  output : w'.output = w.output
  size : w.heap.size ≤ w'.heap.size
  block : ∀ k, k < w.heap.size → ¬ S k → w'.heap[k]? = w.heap[k]?
theorem Only.refl (S : Nat → Prop) (w : World) : Only S w w := ⟨rfl, rfl, rfl, Nat.le_refl _, fun _ _ _ => rfl⟩
theorem Only.of_below {S : Nat → Prop} {w w' : World} (h : Below w.heap.size w w') : Only S w w' := ⟨h.os, h.tape, h.output, h.size, fun k hk _ => h.block k hk⟩
theorem Only.below {S : Nat → Prop} {w w' : World} (h : Only S w w') (hs : ∀ k, k < w.heap.size → ¬ S k) : Below w.heap.size w w' := ⟨h.os, h.tape, h.output, h.size, fun k hk => h.block k hk (hs k hk)⟩
/-- a frame from an earlier world on -/
theorem Only.from {S : Nat → Prop} {w0 w w' : World} (h : Only S w w') (hB : Below w0.heap.size w0 w) (hs : ∀ k, S k → w0.heap.size ≤ k) : Below w0.heap.size w0 w' :=
  ⟨h.os.trans hB.os, h.tape.trans hB.tape, h.output.trans hB.output, Nat.le_trans hB.size h.size, fun k hk => (h.block k (Nat.lt_of_lt_of_le hk hB.size) (fun s => by have := hs k s; omega)).trans (hB.block k hk)⟩
theorem Only.trans {S T : Nat → Prop} {a b c : World} (h : Only S a b) (k : Only T b c) (hs : ∀ i, i < a.heap.size → T i → S i) : Only S a c :=
  ⟨k.os.trans h.os, k.tape.trans h.tape, k.output.trans h.output, Nat.le_trans h.size k.size, fun i hi hn => (k.block i (Nat.lt_of_lt_of_le hi h.size) (fun ht => hn (hs i hi ht))).trans (h.block i hi hn)⟩
theorem Only.then_below {S : Nat → Prop} {a b c : World} (h : Only S a b) (k : Below b.heap.size b c) : Only S a c := h.trans (T := fun _ => False) (Only.of_below k) (fun _ _ => False.elim)
theorem Only.drew {S : Nat → Prop} {a b : World} (h : Only S a b) : Only S a b.drew := ⟨h.os, h.tape, h.output, h.size, h.block⟩
theorem Only.drewN {S : Nat → Prop} {a b : World} (h : Only S a b) (n : Nat) : Only S a (b.drewN n) := ⟨h.os, h.tape, h.output, h.size, h.block⟩
theorem Only.setCell {S : Nat → Prop} {a b : World} (h : Only S a b) {p : Addr} (hp : S p.block ∨ a.heap.size ≤ p.block) (u : Value) : Only S a (b.setCell p u) :=
  h.trans (T := fun k => k = p.block) ⟨rfl, rfl, rfl, by simp [World.setCell], fun k _ hk => Below.heap_setCell _ _ _ _ hk⟩ (fun i hi e => by subst e; rcases hp with hp | hp; exact hp; omega)
theorem Only.mono {S T : Nat → Prop} {w w' : World} (h : Only S w w') (hs : ∀ k, k < w.heap.size → S k → T k) : Only T w w' := ⟨h.os, h.tape, h.output, h.size, fun k hk hn => h.block k hk (fun x => hn (hs k hk x))⟩
theorem Only.keep {S : Nat → Prop} {w w' : World} (h : Only S w w') {k : Nat} (hk : k < w.heap.size) (hn : ¬ S k) : w'.heap[k]? = w.heap[k]? := h.block k hk hn
theorem Only.cell {S : Nat → Prop} {w w' : World} (h : Only S w w') {p : Addr} {v : Value} (hc : w.cell? p = some v) (hn : ¬ S p.block) : w'.cell? p = some v :=
  (World.cell?_of_block (w := w) (h.block p.block (World.block_lt_of_cell? w p hc) hn)).trans hc
theorem Only.setCells {S : Nat → Prop} {a : World} (k : Nat) (hp : S k ∨ a.heap.size ≤ k) (vs : List Value) : ∀ (o : Nat) {b : World}, Only S a b → Only S a (b.setCells k o vs) := by
  induction vs with
  | nil => intro o b h; exact h
  | cons v vs ih => intro o b h; exact ih (o + 1) (h.setCell (p := ⟨k, o, none⟩) hp v)

theorem rowIs_setCells (b : Nat) (t : TypeId) (n : Nat) (vs : List Value) : ∀ (o : Nat) (w : World) (f : Nat → Value), w.rowIs b t n f → (w.setCells b o vs).rowIs b t n (fun j => if o ≤ j ∧ j < o + vs.length then vs.getD (j - o) .nilFunc else f j) := by
  induction vs with
  | nil =>
    intro o w f h
    exact h.congr (fun i _ => by
      have : ¬ (o ≤ i ∧ i < o + ([] : List Value).length) := by simp only [List.length_nil]; omega
      simp only [this, if_false])
  | cons v vs ih =>
    intro o w f h
    refine (ih (o + 1) _ _ (h.set o v)).congr (fun i _ => ?_)
    by_cases e : i = o
    · subst e
      have h1 : ¬ (i + 1 ≤ i ∧ i < i + 1 + vs.length) := by omega
      have h2 : (i ≤ i ∧ i < i + (v :: vs).length) := by simp
      simp only [h1, h2, if_false, if_true, and_self, Nat.sub_self, List.getD_cons_zero]
    · by_cases c : o + 1 ≤ i ∧ i < o + 1 + vs.length
      · have h2 : (o ≤ i ∧ i < o + (v :: vs).length) := by simp; omega
        obtain ⟨k, rfl⟩ : ∃ k, i = o + 1 + k := ⟨i - o - 1, by omega⟩
        have h3 : o + 1 + k - o = k + 1 := by omega
        have h4 : o + 1 + k - (o + 1) = k := by omega
        simp only [c, h2, if_true, and_self, h3, h4, List.getD_cons_succ]
      · have h2 : ¬ (o ≤ i ∧ i < o + (v :: vs).length) := by simp; omega
        simp only [c, h2, if_false, e]
theorem rowIs_there {w : World} {b : Nat} {t : TypeId} {n : Nat} {f : Nat → Value} (h : w.rowIs b t n f) : w.there b 0 n := fun j hj => by
  rw [Nat.zero_add]
  exact ⟨by rw [h.cell hj]; rfl, h.frozen j⟩

/-! A RING IN MEMORY -/
def ringF (most first len : Int) (P : Nat → Value) : Nat → Value
  | 0 => .bool true
  | 1 => .int .i64 most
  | 2 => .int .i64 first
  | 3 => .int .i64 len
  | n + 4 => P n
/-- the ring at block b (type T) has these, of at most most -/
structure RingI (T : TypeId) (w : World) (b most : Nat) (xs : List Value) : Prop where
  mem : ∃ (first : Nat) (P : Nat → Value), w.rowIs b T 68 (ringF most first xs.length P) ∧ first < 64 ∧ xs.length ≤ most ∧ most ≤ 64 ∧ ∀ i, i < xs.length → P ((first + i) % 64) = xs.getD i .nilFunc
/-- what Put makes of it -/
def push (most : Nat) (xs : List Value) (x : Value) : List Value := if most = 0 then xs else if xs.length = most then xs.tail ++ [x] else xs ++ [x]

variable {T : TypeId}
theorem RingI.lt {w : World} {b most : Nat} {xs : List Value} (h : RingI T w b most xs) : b < w.heap.size := by
  obtain ⟨f, P, h, _⟩ := h; exact h.lt
theorem RingI.keep {w w' : World} {b most : Nat} {xs : List Value} (h : RingI T w b most xs) (e : w'.heap[b]? = w.heap[b]?) : RingI T w' b most xs := by
  obtain ⟨f, P, h, h2⟩ := h; exact ⟨f, P, h.of_block e, h2⟩
theorem RingI.below {w w' : World} {b most : Nat} {xs : List Value} (h : RingI T w b most xs) (hB : Below w.heap.size w w') : RingI T w' b most xs := h.keep (hB.block b h.lt)
theorem RingI.only {S : Nat → Prop} {w w' : World} {b most : Nat} {xs : List Value} (h : RingI T w b most xs) (hB : Only S w w') (hs : ¬ S b) : RingI T w' b most xs := h.keep (hB.block b h.lt hs)

theorem mod64 (a : Nat) : Int.tmod ((a : Int)) 64 = ((a % 64 : Nat) : Int) := by
  rw [Int.tmod_eq_emod_of_nonneg (by omega)]; omega
theorem getD_app (xs : List Value) (x : Value) (i : Nat) (d : Value) : (xs ++ [x]).getD i d = if i < xs.length then xs.getD i d else if i = xs.length then x else d := by
  by_cases h : i < xs.length
  · simp [List.getD_eq_getElem?_getD, List.getElem?_append_left h, h]
  · by_cases e : i = xs.length
    · subst e; simp [List.getD_eq_getElem?_getD]
    · rw [if_neg h, if_neg e, List.getD_eq_getElem?_getD, List.getElem?_append_right (by omega)]
      rw [List.getElem?_eq_none (by simp; omega)]; rfl
/-- a place is written -/
theorem ringF_put (most first len : Int) (P : Nat → Value) (p : Nat) (x : Value) : (fun j => if j = 4 + p then x else ringF most first len P j) = ringF most first len (fun j => if j = p then x else P j) := by
  funext j
  match j with
  | 0 | 1 | 2 | 3 => simp [ringF]; omega
  | n + 4 =>
    by_cases e : n = p
    · subst e; simp [ringF, Nat.add_comm]
    · have : ¬ (n + 4 = 4 + p) := by omega
      simp [ringF, e, this]
theorem ringF_first (most first len f' : Int) (P : Nat → Value) : (fun j => if j = 2 then .int .i64 f' else ringF most first len P j) = ringF most f' len P := by
  funext j
  match j with
  | 0 | 1 | 2 | 3 => simp [ringF]
  | n + 4 => simp [ringF]
theorem ringF_len (most first len l' : Int) (P : Nat → Value) : (fun j => if j = 3 then .int .i64 l' else ringF most first len P j) = ringF most first l' P := by
  funext j
  match j with
  | 0 | 1 | 2 | 3 => simp [ringF]
  | n + 4 => simp [ringF]

/-! THE LITERAL Ring{made: true, most: m} -/
def litR (Z : Array Value) (m : Int) : Array Value := (Z.setIfInBounds 0 (.bool true)).setIfInBounds 1 (.int .i64 m)
theorem lit_size {Z : Array Value} {z : Value} (h : Z = #[.bool false, .int .i64 0, .int .i64 0, .int .i64 0] ++ Array.replicate 64 z) (m : Int) : (litR Z m).size = 68 := by
  subst h; simp [litR]
theorem lit_get {Z : Array Value} {z : Value} (h : Z = #[.bool false, .int .i64 0, .int .i64 0, .int .i64 0] ++ Array.replicate 64 z) (m : Int) (i : Nat) (hi : i < 68) : (litR Z m)[i]? = some (ringF m 0 0 (fun _ => z) i) := by
  subst h
  match i with
  | 0 => simp [litR, ringF]
  | 1 => simp [litR, ringF]
  | 2 => simp [litR, ringF]
  | 3 => simp [litR, ringF]
  | n + 4 =>
    have hn : n < 64 := by omega
    simp only [litR, ringF]
    rw [Array.getElem?_setIfInBounds_ne (by omega), Array.getElem?_setIfInBounds_ne (by omega), Array.getElem?_append_right (by simp)]
    simp [hn]
theorem lit_one {Z : Array Value} {z : Value} (h : Z = #[.bool false, .int .i64 0, .int .i64 0, .int .i64 0] ++ Array.replicate 64 z) (hz : z.oneCell' = true) (m : Int) : ((litR Z m).all fun x => x.oneCell') = true := by
  rw [Array.all_eq_true]
  intro i hi
  have hi2 : i < 68 := by rw [lit_size h] at hi; exact hi
  have hg := lit_get h m i hi2
  rw [Array.getElem?_eq_getElem hi] at hg
  rw [Option.some.inj hg]
  match i with
  | 0 | 1 | 2 | 3 => rfl
  | n + 4 => exact hz
theorem lit_ring {Z : Array Value} {z : Value} (h : Z = #[.bool false, .int .i64 0, .int .i64 0, .int .i64 0] ++ Array.replicate 64 z) (m : Nat) (hm : m ≤ 64) {w : World} {b : Nat} (hr : w.rowIs b T 68 (ringF m 0 0 (fun _ => z))) : RingI T w b m [] :=
  ⟨0, fun _ => z, hr, by omega, by simp, hm, fun i hi => by simp at hi⟩
theorem lit_set {Z : Array Value} {z : Value} (h : Z = #[.bool false, .int .i64 0, .int .i64 0, .int .i64 0] ++ Array.replicate 64 z) (m : Nat) (hm : m ≤ 64) {w : World} {b : Nat} {f : Nat → Value} (hr : w.rowIs b T 68 f) : RingI T (w.setCells b 0 (litR Z m).toList) b m [] := by
  refine lit_ring h m hm ((rowIs_setCells b T 68 _ 0 w f hr).congr (fun i hi => ?_))
  have hl : (litR Z m).toList.length = 68 := by simp [lit_size h]
  rw [hl, if_pos (by omega), Nat.sub_zero, List.getD_eq_getElem?_getD]
  have := lit_get h m i hi
  rw [← Array.getElem?_toList] at this
  rw [this]; rfl
end Go.Proofs.Yteajaakhdnlpeaa.Q
