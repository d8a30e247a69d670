import Derived.Test.YtbcijdgpaglbnaaPFrameTornx0
import Derived.WalkKit
import Derived.Handy
import Derived.Lib.Hide
import Derived.WalkLawsBesides
import Derived.WalkSpells
import Derived.Outline
import Derived.StillTailTactics
import Derived.RegionTactic
import Derived.BigQuiet
import Derived.Deep.MidRow
import Derived.Deep.OwnRows
import Derived.Deep.RegionHeld3
import Derived.Deep.RegionLaw
import Derived.Deep.AppendLies
import Derived.Deep.DrawnRows
import Derived.Laws.Cover3
import Derived.Laws.CopyOwn
import Derived.Laws.Rows
namespace Go.Proofs.Ytbcijdgpaglbnaa.Q
open Go.RowKit Go.Proofs.YtbcijdgpaglbnaaW.PrintWords Go.Deep
set_option linter.unusedVariables false
set_option linter.unusedSimpArgs false

theorem calls_eq {P : Program} {f : FuncId} {args : Array Value} {w : World} {v v' : Value} {R : World → Prop} (h : Calls P f args w fun e w' => e = .returned v ∧ R w') (hv : v = v') : Hid (Calls P f args w fun e w' => e = .returned v' ∧ R w') := hv ▸ h

/-- Of what was there only the blocks of S may have turned. -/
structure Only (S : Nat → Prop) (w w' : World) : Prop where
  os : w'.os = w.os
  tape : w'.tape = w.tape
  output : w'.output = w.output
  size : w.heap.size ≤ w'.heap.size
  block : ∀ k, k < w.heap.size → ¬ S k → w'.heap[k]? = w.heap[k]?
theorem Only.refl (S : Nat → Prop) (w : World) : Only S w w := ⟨rfl, rfl, rfl, Nat.le_refl _, fun _ _ _ => rfl⟩
theorem Only.of_below {S : Nat → Prop} {w w' : World} (h : Below w.heap.size w w') : Only S w w' := ⟨h.os, h.tape, h.output, h.size, fun k hk _ => h.block k hk⟩
theorem Only.below {S : Nat → Prop} {w w' : World} (h : Only S w w') (hs : ∀ k, k < w.heap.size → ¬ S k) : Below w.heap.size w w' := ⟨h.os, h.tape, h.output, h.size, fun k hk => h.block k hk (hs k hk)⟩
/-- a frame from an earlier world on -/
theorem Only.from {S : Nat → Prop} {w0 w w' : World} (h : Only S w w') (hB : Below w0.heap.size w0 w) (hs : ∀ k, S k → w0.heap.size ≤ k) : Below w0.heap.size w0 w' :=
  ⟨h.os.trans hB.os, h.tape.trans hB.tape, h.output.trans hB.output, Nat.le_trans hB.size h.size, fun k hk => (h.block k (Nat.lt_of_lt_of_le hk hB.size) (fun s => by have := hs k s; omega)).trans (hB.block k hk)⟩
theorem Only.trans {S T : Nat → Prop} {a b c : World} (h : Only S a b) (k : Only T b c) (hs : ∀ i, i < a.heap.size → T i → S i) : Only S a c :=
  ⟨k.os.trans h.os, k.tape.trans h.tape, k.output.trans h.output, Nat.le_trans h.size k.size, fun i hi hn => (k.block i (Nat.lt_of_lt_of_le hi h.size) (fun ht => hn (hs i hi ht))).trans (h.block i hi hn)⟩
theorem Only.then_below {S : Nat → Prop} {a b c : World} (h : Only S a b) (k : Below b.heap.size b c) : Only S a c := h.trans (T := fun _ => False) (Only.of_below k) (fun _ _ => False.elim)
theorem Only.drew {S : Nat → Prop} {a b : World} (h : Only S a b) : Only S a b.drew := ⟨h.os, h.tape, h.output, h.size, h.block⟩
theorem Only.drewN {S : Nat → Prop} {a b : World} (h : Only S a b) (n : Nat) : Only S a (b.drewN n) := ⟨h.os, h.tape, h.output, h.size, h.block⟩
theorem Only.setCell {S : Nat → Prop} {a b : World} (h : Only S a b) {p : Addr} (hp : S p.block ∨ a.heap.size ≤ p.block) (u : Value) : Only S a (b.setCell p u) :=
  h.trans (T := fun k => k = p.block) ⟨rfl, rfl, rfl, by simp [World.setCell], fun k _ hk => Below.heap_setCell _ _ _ _ hk⟩ (fun i hi e => by subst e; rcases hp with hp | hp; exact hp; omega)
theorem Only.mono {S T : Nat → Prop} {w w' : World} (h : Only S w w') (hs : ∀ k, k < w.heap.size → S k → T k) : Only T w w' := ⟨h.os, h.tape, h.output, h.size, fun k hk hn => h.block k hk (fun x => hn (hs k hk x))⟩
theorem Only.keep {S : Nat → Prop} {w w' : World} (h : Only S w w') {k : Nat} (hk : k < w.heap.size) (hn : ¬ S k) : w'.heap[k]? = w.heap[k]? := h.block k hk hn
theorem Only.cell {S : Nat → Prop} {w w' : World} (h : Only S w w') {p : Addr} {v : Value} (hc : w.cell? p = some v) (hn : ¬ S p.block) : w'.cell? p = some v :=
  (World.cell?_of_block (w := w) (h.block p.block (World.block_lt_of_cell? w p hc) hn)).trans hc
theorem Only.setCells {S : Nat → Prop} {a : World} (k : Nat) (hp : S k ∨ a.heap.size ≤ k) (vs : List Value) : ∀ (o : Nat) {b : World}, Only S a b → Only S a (b.setCells k o vs) := by
  induction vs with
  | nil => intro o b h; exact h
  | cons v vs ih => intro o b h; exact ih (o + 1) (h.setCell (p := ⟨k, o, none⟩) hp v)


/-! BYTES -/
/-- a slice that reads as these bytes -/
def RdB (w : World) (A : Option Addr) (L : List Nat) : Prop := L.length ≤ 9223372036854775807 ∧ (0 < L.length → ∃ b o, A = some ⟨b, o, none⟩ ∧ ∀ i, i < L.length → w.cell? ⟨b, o + i, none⟩ = some (.int .u8 (L.getD i 0)))
theorem RdB.below {w w' : World} {A : Option Addr} {L : List Nat} (h : RdB w A L) (hB : Below w.heap.size w w') : RdB w' A L :=
  ⟨h.1, fun hp => by obtain ⟨b, o, ha, hc⟩ := h.2 hp; exact ⟨b, o, ha, fun i hi => pw_cell_below hB (hc i hi)⟩⟩
def Bytes (L : List Nat) : Prop := ∀ i, L.getD i 0 < 256
theorem Bytes.take {L : List Nat} (h : Bytes L) (n : Nat) : Bytes (L.take n) := fun i => by
  by_cases hi : i < n
  · have := h i; simpa [List.getD_eq_getElem?_getD, List.getElem?_take, hi] using this
  · simp [List.getD_eq_getElem?_getD, List.getElem?_take, hi]
theorem Bytes.drop {L : List Nat} (h : Bytes L) (n : Nat) : Bytes (L.drop n) := fun i => by
  have := h (n + i)
  simpa [List.getD_eq_getElem?_getD, List.getElem?_drop] using this
theorem infoB : (Try.prog.info? 5).map (fun i => (i.zero, i.size, i.bytes)) = some (some (.int .u8 0), 1, 1) := by kernel_rfl

/-! THE SUM -/
def lowTo (L : List Nat) : Nat → Nat
  | 0 => 1
  | k + 1 => (lowTo L k + L.getD k 0) % 65521
def highTo (L : List Nat) : Nat → Nat
  | 0 => 0
  | k + 1 => (highTo L k + lowTo L (k + 1)) % 65521
theorem lowTo_lt (L : List Nat) (k : Nat) : lowTo L k < 65521 := by
  cases k with
  | zero => simp [lowTo, highTo]
  | succ k => exact Nat.mod_lt _ (by decide)
theorem highTo_lt (L : List Nat) (k : Nat) : highTo L k < 65521 := by
  cases k with
  | zero => simp [lowTo, highTo]
  | succ k => exact Nat.mod_lt _ (by decide)
def sumB (L : List Nat) : Nat := highTo L L.length * 65536 + lowTo L L.length
theorem sumB_lt (L : List Nat) : sumB L < 4294967296 := by
  have := lowTo_lt L L.length
  have := highTo_lt L L.length
  unfold sumB; omega
theorem or_u32 (a b : Nat) (ha : a < 65536) (hb : b < 65536) : bits .or .u32 ((a * 65536 : Nat) : Int) (b : Int) = ((a * 65536 + b : Nat) : Int) := by
  have h1 : (BitVec.ofInt 32 ((a * 65536 : Nat) : Int)).toNat = a * 65536 := by
    rw [BitVec.ofInt_natCast, BitVec.toNat_ofNat]; exact Nat.mod_eq_of_lt (by omega)
  have h2 : (BitVec.ofInt 32 (b : Int)).toNat = b := by
    rw [BitVec.ofInt_natCast, BitVec.toNat_ofNat]; exact Nat.mod_eq_of_lt (by omega)
  show IntKind.u32.wrap ((BitVec.ofInt 32 ((a * 65536 : Nat) : Int) ||| BitVec.ofInt 32 (b : Int)).toNat : Int) = _
  rw [BitVec.toNat_or, h1, h2, show a * 65536 = a <<< 16 by rw [Nat.shiftLeft_eq], ← Nat.shiftLeft_add_eq_or_of_lt (by omega : b < 2 ^ 16), Nat.shiftLeft_eq]
  rw [IntKind.wrap_u32]; omega
theorem or_u32' (a b : Nat) (ha : a < 65536) (hb : b < 65536) : bits .or .u32 ((a : Int) * 65536) (b : Int) = ((a * 65536 + b : Nat) : Int) := by
  rw [← or_u32 a b ha hb]; congr 1
theorem or_i64 (a b k : Nat) (ha : a * 2 ^ k + b < 9223372036854775808) (hb : b < 2 ^ k) : bits .or .i64 ((a * 2 ^ k : Nat) : Int) (b : Int) = ((a * 2 ^ k + b : Nat) : Int) := by
  have h1 : (BitVec.ofInt 64 ((a * 2 ^ k : Nat) : Int)).toNat = a * 2 ^ k := by
    rw [BitVec.ofInt_natCast, BitVec.toNat_ofNat]; exact Nat.mod_eq_of_lt (by omega)
  have h2 : (BitVec.ofInt 64 (b : Int)).toNat = b := by
    rw [BitVec.ofInt_natCast, BitVec.toNat_ofNat]; exact Nat.mod_eq_of_lt (by omega)
  show IntKind.i64.wrap ((BitVec.ofInt 64 ((a * 2 ^ k : Nat) : Int) ||| BitVec.ofInt 64 (b : Int)).toNat : Int) = _
  rw [BitVec.toNat_or, h1, h2, show a * 2 ^ k = a <<< k by rw [Nat.shiftLeft_eq], ← Nat.shiftLeft_add_eq_or_of_lt hb, Nat.shiftLeft_eq]
  rw [IntKind.wrap_i64]; omega

set_option maxHeartbeats 2000000 in
theorem sum_calls (A : Option Addr) (c : Nat) (L : List Nat) (w : World) (hr : RdB w A L) (hb : Bytes L) :
    Calls Try.prog 21 #[.slice A L.length c] w fun e w' => e = .returned (.int .u32 (sumB L)) ∧ w = w' := by
  have hl := hr.1
  have HR := Lib.hid hr.2
  have HB := Lib.hid hb
  have HO := Lib.hid (or_u32' (highTo L L.length) (lowTo L L.length) (Nat.lt_trans (highTo_lt L _) (by decide)) (Nat.lt_trans (lowTo_lt L _) (by decide)))
  clear hr hb
  go_enter Try.func21, Try.ntmps21
  go_wp2
  go_loop [3, 4, 9] (fun a b v => ∃ k : Nat, k ≤ L.length ∧ v = .int .i64 k ∧ a = .int .u32 (lowTo L k) ∧ b = .int .u32 (highTo L k)) (fun _ _ v => L.length - (intOf v).toNat)
  case atStart => exact ⟨0, by omega, rfl, rfl, rfl⟩
  case round =>
    obtain ⟨k, hk, rfl, rfl, rfl⟩ := hrel
    by_cases hlt : k < L.length
    · obtain ⟨b, o, rfl, hc⟩ := HR.out (by omega)
      have x0 := hc k hlt
      have b0 := HB.out k
      have b1 := lowTo_lt L k
      have b2 := highTo_lt L k
      have T1 : Hid (lowTo L (k + 1) = (lowTo L k + L.getD k 0) % 65521) := Lib.hid rfl
      have T2 : Hid (highTo L (k + 1) = (highTo L k + lowTo L (k + 1)) % 65521) := Lib.hid rfl
      obtain ⟨x, hx⟩ : ∃ x, L.getD k 0 = x := ⟨_, rfl⟩
      obtain ⟨p, hp⟩ : ∃ x, lowTo L k = x := ⟨_, rfl⟩
      obtain ⟨q, hq⟩ : ∃ x, highTo L k = x := ⟨_, rfl⟩
      rw [hx] at x0 b0 T1
      rw [hp] at b1 T1 ⊢
      rw [hq] at b2 T2 ⊢
      clear hc hx hp hq
      go_wp2
      exact ⟨⟨k + 1, by omega, by go_num, by rw [T1.out]; congr 1, by rw [T2.out, T1.out]; congr 1⟩, by simp [intOf]; omega⟩
    · obtain rfl : k = L.length := by omega
      have hh := highTo_lt L L.length
      have e9 : ((highTo L L.length : Nat) : Int) * 65536 % 4294967296 = ((highTo L L.length : Nat) : Int) * 65536 := by omega
      go_wp2
      go_ret
      exact ⟨by rw [HO.out]; rfl, rfl⟩

/-! FOUR BYTES -/
def byteOf (n j : Nat) : Nat := n / 256 ^ (3 - j) % 256
theorem byteOf_lt (n j : Nat) : byteOf n j < 256 := Nat.mod_lt _ (by decide)
def fourV (n : Nat) : List Value := [.int .u8 (byteOf n 0), .int .u8 (byteOf n 1), .int .u8 (byteOf n 2), .int .u8 (byteOf n 3)]
def numOf (a b c d : Nat) : Nat := a * 16777216 + b * 65536 + c * 256 + d
theorem num_four (n : Nat) (h : n < 4294967296) : numOf (byteOf n 0) (byteOf n 1) (byteOf n 2) (byteOf n 3) = n := by
  simp only [numOf, byteOf]
  omega
theorem four_calls (n : Nat) (w : World) (h : n < 4294967296) :
    Calls Try.prog 20 #[.int .u32 n] w fun e w' => e = .returned (.agg (fourV n).toArray) ∧ Below w.heap.size w w' := by
  have HV : Hid ((fourV n).toArray = #[.int .u8 ((n : Int) / 16777216), .int .u8 ((n : Int) / 65536 % 256), .int .u8 ((n : Int) / 256 % 256), .int .u8 ((n : Int) % 256)]) := Lib.hid (by
    have e0 : ((byteOf n 0 : Nat) : Int) = (n : Int) / 16777216 := by simp only [byteOf]; omega
    have e1 : ((byteOf n 1 : Nat) : Int) = (n : Int) / 65536 % 256 := by simp only [byteOf]; omega
    have e2 : ((byteOf n 2 : Nat) : Int) = (n : Int) / 256 % 256 := by simp only [byteOf]; omega
    have e3 : ((byteOf n 3 : Nat) : Int) = (n : Int) % 256 := by simp only [byteOf]; omega
    simp only [fourV, e0, e1, e2, e3])
  go_enter Try.func20, Try.ntmps20
  go_wp2
  refine bodyPost_ret (results_cell_row rfl _ _ w.heap.size 46 #[.int .u8 ((n : Int) / 16777216), .int .u8 ((n : Int) / 65536 % 256), .int .u8 ((n : Int) / 256 % 256), .int .u8 ((n : Int) % 256)] (0, 0) _ rfl (heap_alloc_new w _) Try.underlying46 rfl (by kernel_rfl)) rfl ?_
  exact ⟨by rw [HV.out], below_alloc (Below.refl _ _) _⟩
theorem or_24 (a b : Nat) (ha : a < 256) (hb : b < 16777216) : bits .or .i64 ((a : Int) * 16777216) (b : Int) = ((a * 16777216 + b : Nat) : Int) := by
  have e : (2 : Nat) ^ 24 = 16777216 := by decide
  have h := or_i64 a b 24 (by rw [e]; omega) (by rw [e]; exact hb)
  rw [e] at h
  rw [← h]; congr 1
theorem or_16 (a b : Nat) (ha : a < 65536) (hb : b < 65536) : bits .or .i64 ((a * 65536 : Nat) : Int) (b : Int) = ((a * 65536 + b : Nat) : Int) := by
  have e : (2 : Nat) ^ 16 = 65536 := by decide
  have h := or_i64 a b 16 (by rw [e]; omega) (by rw [e]; exact hb)
  rw [e] at h
  exact h
theorem or_8 (a b : Nat) (ha : a < 16777216) (hb : b < 256) : bits .or .i64 ((a * 256 : Nat) : Int) (b : Int) = ((a * 256 + b : Nat) : Int) := by
  have e : (2 : Nat) ^ 8 = 256 := by decide
  have h := or_i64 a b 8 (by rw [e]; omega) (by rw [e]; exact hb)
  rw [e] at h
  exact h
theorem or_four (a b c d : Nat) (ha : a < 256) (hb : b < 256) (hc : c < 256) (hd : d < 256) :
    bits .or .i64 (bits .or .i64 (bits .or .i64 ((a : Int) * 16777216) ((b : Int) * 65536)) ((c : Int) * 256)) (d : Int) = (numOf a b c d : Int) := by
  have e1 : ((b : Int) * 65536) = ((b * 65536 : Nat) : Int) := by omega
  have e2 : ((c : Int) * 256) = ((c * 256 : Nat) : Int) := by omega
  rw [e1, e2, or_24 a (b * 65536) ha (by omega)]
  rw [show a * 16777216 + b * 65536 = (a * 256 + b) * 65536 by omega, or_16 (a * 256 + b) (c * 256) (by omega) (by omega)]
  rw [show (a * 256 + b) * 65536 + c * 256 = ((a * 256 + b) * 256 + c) * 256 by omega, or_8 ((a * 256 + b) * 256 + c) d (by omega) hd]
  simp only [numOf]; omega
theorem number_calls (a b c d : Nat) (w : World) (ha : a < 256) (hb : b < 256) (hc : c < 256) (hd : d < 256) :
    Calls Try.prog 24 #[.agg #[.int .u8 a, .int .u8 b, .int .u8 c, .int .u8 d]] w fun e w' => e = .returned (.int .i64 (numOf a b c d)) ∧ Below w.heap.size w w' := by
  have HV := Lib.hid (or_four a b c d ha hb hc hd)
  go_enter Try.func24, Try.ntmps24
  go_wp2
  go_ret
  exact ⟨by rw [← HV.out]; rfl, below_alloc (Below.refl _ _) _⟩
set_option maxHeartbeats 2000000 in
theorem eq_calls (A B : Option Addr) (c d : Nat) (L : List Nat) (w : World) (hr : RdB w A L) (hs : RdB w B L) :
    Calls Try.prog 11 #[.slice A L.length c, .slice B L.length d] w fun e w' => e = .returned (.bool true) ∧ Below w.heap.size w w' := by
  have hl := hr.1
  have HR := Lib.hid hr
  have HS := Lib.hid hs
  have hne : ((L.length : Int) != (L.length : Int)) = false := by simp
  clear hr hs
  go_enter Try.func11, Try.ntmps11
  go_wp2
  go_loopw [5] (fun t wr => ∃ k : Nat, k ≤ L.length ∧ t = .int .i64 k ∧ Hid (Below w.heap.size w wr)) (fun t _ => L.length - (intOf t).toNat)
  case atStart => exact ⟨0, by omega, rfl, Lib.hid (Below.refl _ _)⟩
  case round =>
    obtain ⟨k, hk, rfl, HB⟩ := hrel
    by_cases hlt : k < L.length
    · obtain ⟨b, o, rfl, hc⟩ := HR.out.2 (by omega)
      obtain ⟨b2, o2, rfl, hc2⟩ := HS.out.2 (by omega)
      have x0 := pw_cell_below HB.out (hc k hlt)
      have x1 := pw_cell_below HB.out (hc2 k hlt)
      obtain ⟨y, hy⟩ : ∃ y, L.getD k 0 = y := ⟨_, rfl⟩
      rw [hy] at x0 x1
      have hne2 : ((y : Int) != (y : Int)) = false := by simp
      clear hc hc2 hy
      go_wp2
      go_quiet (fail)
      go_wp2
      exact ⟨⟨k + 1, by omega, by go_num, Lib.hid (pw_below_drewN HB.out nq)⟩, by simp [intOf]; omega⟩
    · obtain rfl : k = L.length := by omega
      go_wp2
      go_ret
      exact ⟨rfl, HB.out⟩
end Go.Proofs.Ytbcijdgpaglbnaa.Q
