import Derived.WalkKit
import Derived.Handy
import Derived.Lib.Hide
import Derived.WalkLawsBesides
import Derived.WalkSpells
import Derived.Outline
namespace Go.Proofs.Ytfkbknkmanphfaa.Q
open Go.RowKit
variable {P : Program}

def aggD : TypeDesc → Bool | .struct _ | .array _ _ => true | _ => false

/-- 'a[i]' of an array by value, of one-cell elements. -/
theorem run_index_arr1 (t e : TypeId) (n : Nat) (cs : Array Value) (k : IntKind) (i : Nat) (v : Value) (h : P.underlying t = some (.array n e)) (d : TypeDesc) (he : P.underlying e = some d)
    (hd : aggD d = false) (hs : (P.info? e).map (·.size) = some 1) (hi : i < n) (hv : cs[i]? = some v) (w : World) :
    (Instr.index t (.agg cs) (.int k (i : Int))).run P w = .ok v w := by
  have hn : (0 ≤ (i : Int) ∧ (i : Int) < (n : Int)) := by omega
  have hagg : (isAgg e).run P w = .ok false w := by
    unfold isAgg
    rw [Sem.run_bind, run_underlying he w]
    cases d <;> simp_all [aggD]
  cases hq : P.info? e with
  | none => simp [hq] at hs
  | some x =>
    have hx : x.size = 1 := by simpa [hq] using hs
    simp [Instr.index, run_underlying h, asIntOf, hn, part, sizeOf, typeInfo, hq, hx, hagg, hv, Sem.run_bind]
    omega

/-- The same, elements of several cells. -/
theorem run_index_arrN (t e : TypeId) (n m : Nat) (cs : Array Value) (k : IntKind) (i : Nat) (h : P.underlying t = some (.array n e)) (d : TypeDesc) (he : P.underlying e = some d)
    (hd : aggD d = true) (hs : (P.info? e).map (·.size) = some m) (hi : i < n) (w : World) :
    (Instr.index t (.agg cs) (.int k (i : Int))).run P w = .ok (.agg (cs.extract (i * m) (i * m + m))) w := by
  have hn : (0 ≤ (i : Int) ∧ (i : Int) < (n : Int)) := by omega
  have hagg : (isAgg e).run P w = .ok true w := by
    unfold isAgg
    rw [Sem.run_bind, run_underlying he w]
    cases d <;> simp_all [aggD]
  cases hq : P.info? e with
  | none => simp [hq] at hs
  | some x =>
    have hx : x.size = m := by simpa [hq] using hs
    simp [Instr.index, run_underlying h, asIntOf, hn, part, sizeOf, typeInfo, hq, hx, hagg, Sem.run_bind]
    omega

/-- a bit of a byte -/
theorem and_one_u8 (a : Int) (h0 : 0 ≤ a) (h1 : a ≤ 255) : bits .and .u8 a 1 = a % 2 := by
  obtain ⟨n, rfl⟩ := Int.eq_ofNat_of_zero_le h0
  have hn : n ≤ 255 := by omega
  have : ∀ m : Fin 256, bits .and .u8 (m.val : Int) 1 = (m.val : Int) % 2 := by decide +kernel
  exact this ⟨n, by omega⟩

def inS (s : Int) (i : Nat) : Bool := s.toNat.testBit i
theorem inS_eq (s : Int) (i : Nat) (h0 : 0 ≤ s) : inS s i = decide (s / 2 ^ i % 2 = 1) := by
  obtain ⟨n, rfl⟩ := Int.eq_ofNat_of_zero_le h0
  unfold inS
  rw [Int.toNat_natCast, Nat.testBit_eq_decide_div_mod_eq]
  have e : ((n : Int) / 2 ^ i % 2) = ((n / 2 ^ i % 2 : Nat) : Int) := by push_cast; rfl
  simp only [e]
  congr 1
  rw [eq_iff_iff]
  omega
theorem shift_bit (s : Int) (i : Nat) (h0 : 0 ≤ s) (h1 : s ≤ 255) : bits .and .u8 (s / 2 ^ i) 1 = if inS s i then 1 else 0 := by
  have hp : (0 : Int) < 2 ^ i := Int.pow_pos (by omega)
  have a0 : 0 ≤ s / 2 ^ i := Int.ediv_nonneg h0 (by omega)
  have a1 : s / 2 ^ i ≤ 255 := Int.le_trans (Int.ediv_le_self _ h0) h1
  rw [and_one_u8 _ a0 a1, inS_eq s i h0]
  by_cases c : s / 2 ^ i % 2 = 1
  · simp [c]
  · have : s / 2 ^ i % 2 = 0 := by omega
    simp [this]

theorem bytes_all (p : Nat → Nat → Bool) (h : ((List.range 256).all fun n => (List.range 8).all fun i => p n i) = true) (n i : Nat) (hn : n ≤ 255) (hi : i < 8) : p n i = true := by
  rw [List.all_eq_true] at h
  have h2 := h n (by simp; omega)
  rw [List.all_eq_true] at h2
  exact h2 i (by simp; omega)
theorem and_pow_u8 (s : Int) (i : Nat) (h0 : 0 ≤ s) (h1 : s ≤ 255) (hi : i < 8) : (bits .and .u8 s (2 ^ i % 256) = 0) ↔ inS s i = false := by
  obtain ⟨n, rfl⟩ := Int.eq_ofNat_of_zero_le h0
  have := bytes_all (fun n i => decide ((bits .and .u8 (n : Int) (2 ^ i % 256) = 0) ↔ inS (n : Int) i = false)) (by decide +kernel) n i (by omega) hi
  exact of_decide_eq_true this
def clr (s : Int) (i : Nat) : Int := bits .andNot .u8 s (2 ^ i % 256)
theorem clr_bd (s : Int) (i : Nat) (h0 : 0 ≤ s) (h1 : s ≤ 255) (hi : i < 8) : 0 ≤ clr s i ∧ clr s i ≤ 255 := by
  obtain ⟨n, rfl⟩ := Int.eq_ofNat_of_zero_le h0
  have := bytes_all (fun n i => decide (0 ≤ clr (n : Int) i ∧ clr (n : Int) i ≤ 255)) (by decide +kernel) n i (by omega) hi
  simpa using this
theorem clr_in (s : Int) (i j : Nat) (h0 : 0 ≤ s) (h1 : s ≤ 255) (hi : i < 8) (hj : j < 8) : inS (clr s i) j = (inS s j && decide (j ≠ i)) := by
  obtain ⟨n, rfl⟩ := Int.eq_ofNat_of_zero_le h0
  have := bytes_all (fun n i => (List.range 8).all fun j => inS (clr (n : Int) i) j == (inS (n : Int) j && decide (j ≠ i))) (by decide +kernel) n i (by omega) hi
  rw [List.all_eq_true] at this
  simpa using this j (by simp; omega)

theorem calls_eq {P : Program} {f : FuncId} {args : Array Value} {w : World} {v v' : Value} {R : World → Prop} (h : Calls P f args w fun e w' => e = .returned v ∧ R w') (hv : v = v') : Hid (Calls P f args w fun e w' => e = .returned v' ∧ R w') := hv ▸ h

/-- Of what was there only the blocks of S may have turned. -/
structure Only (S : Nat → Prop) (w w' : World) : Prop where
  os : w'.os = w.os
  tape : w'.tape = w.tape
  output : w'.output = w.output
  size : w.heap.size ≤ w'.heap.size
  block : ∀ k, k < w.heap.size → ¬ S k → w'.heap[k]? = w.heap[k]?
theorem Only.refl (S : Nat → Prop) (w : World) : Only S w w := ⟨rfl, rfl, rfl, Nat.le_refl _, fun _ _ _ => rfl⟩
theorem Only.of_below {S : Nat → Prop} {w w' : World} (h : Below w.heap.size w w') : Only S w w' := ⟨h.os, h.tape, h.output, h.size, fun k hk _ => h.block k hk⟩
theorem Only.below {S : Nat → Prop} {w w' : World} (h : Only S w w') (hs : ∀ k, k < w.heap.size → ¬ S k) : Below w.heap.size w w' := ⟨h.os, h.tape, h.output, h.size, fun k hk => h.block k hk (hs k hk)⟩
theorem Only.trans {S T : Nat → Prop} {a b c : World} (h : Only S a b) (k : Only T b c) (hs : ∀ i, i < a.heap.size → T i → S i) : Only S a c :=
  ⟨k.os.trans h.os, k.tape.trans h.tape, k.output.trans h.output, Nat.le_trans h.size k.size, fun i hi hn => (k.block i (Nat.lt_of_lt_of_le hi h.size) (fun ht => hn (hs i hi ht))).trans (h.block i hi hn)⟩
theorem Only.then_below {S : Nat → Prop} {a b c : World} (h : Only S a b) (k : Below b.heap.size b c) : Only S a c := h.trans (T := fun _ => False) (Only.of_below k) (fun _ _ => False.elim)
theorem Only.alloc {S : Nat → Prop} {a b : World} (h : Only S a b) (o : Obj) : Only S a (b.alloc o) := h.then_below (below_alloc' b o)
where below_alloc' (b : World) (o : Obj) : Below b.heap.size b (b.alloc o) := (Below.refl _ _).alloc (Nat.le_refl _) o
theorem Only.drew {S : Nat → Prop} {a b : World} (h : Only S a b) : Only S a b.drew := ⟨h.os, h.tape, h.output, h.size, h.block⟩
theorem Only.drewN {S : Nat → Prop} {a b : World} (h : Only S a b) (n : Nat) : Only S a (b.drewN n) := ⟨h.os, h.tape, h.output, h.size, h.block⟩
theorem Only.setCell {S : Nat → Prop} {a b : World} (h : Only S a b) {p : Addr} (hp : S p.block ∨ a.heap.size ≤ p.block) (u : Value) : Only S a (b.setCell p u) :=
  h.trans (T := fun k => k = p.block) ⟨rfl, rfl, rfl, by simp [World.setCell], fun k _ hk => Below.heap_setCell _ _ _ _ hk⟩ (fun i hi e => by subst e; rcases hp with hp | hp; exact hp; omega)
theorem Only.mono {S T : Nat → Prop} {w w' : World} (h : Only S w w') (hs : ∀ k, k < w.heap.size → S k → T k) : Only T w w' := ⟨h.os, h.tape, h.output, h.size, fun k hk hn => h.block k hk (fun x => hn (hs k hk x))⟩
theorem Only.keep {S : Nat → Prop} {w w' : World} (h : Only S w w') {k : Nat} (hk : k < w.heap.size) (hn : ¬ S k) : w'.heap[k]? = w.heap[k]? := h.block k hk hn
theorem Only.cell {S : Nat → Prop} {w w' : World} (h : Only S w w') {p : Addr} {v : Value} (hc : w.cell? p = some v) (hn : ¬ S p.block) : w'.cell? p = some v :=
  (World.cell?_of_block (w := w) (h.block p.block (World.block_lt_of_cell? w p hc) hn)).trans hc

end Go.Proofs.Ytfkbknkmanphfaa.Q
