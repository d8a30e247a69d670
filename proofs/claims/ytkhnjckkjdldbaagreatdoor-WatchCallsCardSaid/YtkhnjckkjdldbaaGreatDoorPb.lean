import Derived.Test.YtkhnjckkjdldbaaGreatDoorPa
import Derived.Test.YtkhnjckkjdldbaaGreatDoorShelf
import Derived.WalkKit
import Derived.Handy
import Derived.BigCall
import Derived.Lib.OthersKept
import Derived.WalkLawsBesides
import Derived.WalkSpells
import Derived.Outline
import Derived.WalkSmall
import Derived.RangeFuncBox
import Derived.RangeFuncLeaves
import Derived.RangeFuncNested
import Derived.RangeFuncWrites
import Derived.Shelf.Abstract
import Derived.OwnWalkIn
import Derived.TacticsInMore
import Derived.LoopNIn
import Derived.LoopIn
import Derived.Lib.IndexLaws
namespace Go.Proofs.YtkhnjckkjdldbaaGreatDoor.Q
open Go.RowKit Go.Proofs.YtkhnjckkjdldbaaGreatDoorW.PrintWords Go.Proofs.YtkhnjckkjdldbaaGreatDoor.Pr
set_option linter.unusedVariables false
set_option linter.unusedSimpArgs false

/-- the two tables that utf8 reads -/
abbrev Tabs (w : World) : Prop := Lib.Utf8Tabs 0 1 w
theorem get_out (t : ByteArray) (j : Nat) (h : ¬ j < t.size) : t.get! j = 0 := by
  cases t with
  | mk d =>
    have h' : ¬ j < d.size := h
    simp [ByteArray.get!, h']; rfl
theorem extract_get (s : ByteArray) (i k : Nat) (hi : i ≤ s.size) : (s.extract i s.size).get! k = s.get! (i + k) := by
  by_cases h : i + k < s.size
  · rw [Utf8W.get!_of_lt _ _ (by rw [ByteArray.size_extract]; omega), Utf8W.get!_of_lt _ _ h]
    exact ByteArray.getElem_extract _
  · rw [get_out _ _ (by rw [ByteArray.size_extract]; omega), get_out _ _ (by omega)]
theorem decode_rest (s : ByteArray) (i : Nat) (hi : i < s.size) : Lib.decodeGo (s.extract i s.size) = Utf8.decode s i := by
  have hz : (s.extract i s.size).size = s.size - i := by rw [ByteArray.size_extract]; omega
  unfold Lib.decodeGo
  rw [if_neg (by omega), Lib.decode_at, Lib.decode_at, hz]
  simp only [extract_get s i _ (Nat.le_of_lt hi), Nat.add_zero, Nat.zero_add, Nat.sub_zero]
theorem may_calls (c n : Int) (w : World) : Calls Tryz.prog 110 #[.int .i32 c, .int .i64 n] w fun e w' => e = .returned (.bool (mayB c n)) ∧ Below w.heap.size w w' :=
  (path_may.calls 5 c n _ w (may_f c n)).mono fun e w' h => ⟨h.1, h.2.below⟩
def faultV (s : ByteArray) : Int := match nameFault s with
  | none => -1
  | some j => j
theorem faultV_special {s : ByteArray} (h : special s) : faultV s = 0 := by unfold faultV nameFault; rw [if_pos h]; rfl
theorem faultV_at {s : ByteArray} (h : ¬ special s) {i : Nat} (hb : bad s 0 = some i) (hi : i < 24) : faultV s = i := by unfold faultV nameFault; rw [if_neg h, hb]; simp [hi]
theorem faultV_long {s : ByteArray} (h : ¬ special s) {i : Nat} (hb : bad s 0 = bad s i) (hi : 24 ≤ i ∨ ¬ i < s.size) (hs : 24 < s.size) : faultV s = 24 := by
  unfold faultV nameFault; rw [if_neg h, hb]
  cases h2 : bad s i with
  | none => simp [hs]
  | some j =>
    have := bad_lt h2
    rcases hi with hi | hi
    · simp [show ¬ j < 24 by omega]
    · omega
theorem faultV_none {s : ByteArray} (h : ¬ special s) {i : Nat} (hb : bad s 0 = bad s i) (hi : ¬ i < s.size) (hs : ¬ 24 < s.size) : faultV s = -1 := by
  unfold faultV nameFault; rw [if_neg h, hb, bad_out hi]; simp [hs]
theorem ret_i64 {a b : Int} (h : a = b) : Ending.returned (.int .i64 a) = .returned (.int .i64 b) := by rw [h]
theorem tabs_from {w0 w' : World} (h : Tabs w0) (hb : Below w0.heap.size w0 w') : Tabs w' := Utf8Tabs_below h hb
set_option maxHeartbeats 4000000 in
set_option maxRecDepth 1000000 in
theorem fault_calls (s : ByteArray) (w : World) (hs : s.size ≤ 4294967296) (hT : Tabs w) :
    Calls Tryz.prog 99 #[.string s] w fun e w' => e = .returned (.int .i64 (faultV s)) ∧ Below w.heap.size w w' := by
  have HT := Lib.hid hT
  clear hT
  have hz := toList_nil_iff s
  by_cases c0 : s.toList = []
  · have F := Lib.hid (faultV_special (.inl c0))
    have c0' : s.toList.isEmpty = true := by rw [c0]; rfl
    clear hz
    go_enter Tryz.func99, Tryz.ntmps99
    go_wp2
    go_ret
    exact ⟨ret_i64 F.out.symm, Below.refl _ _⟩
  have c0' : s.toList.isEmpty = false := by simpa using c0
  by_cases c1 : s.toList = [46]
  · have F := Lib.hid (faultV_special (.inr (.inl c1)))
    have c1' : (s.toList == [46]) = true := beq_iff_eq.mpr c1
    have c0n : ¬ s.toList = [] := c0
    clear hz c0
    go_enter Tryz.func99, Tryz.ntmps99
    go_wp2
    go_ret
    exact ⟨ret_i64 F.out.symm, Below.refl _ _⟩
  have c1' : (s.toList == [46]) = false := beq_eq_false_iff_ne.mpr c1
  by_cases c2 : s.toList = [46, 46]
  · have F := Lib.hid (faultV_special (.inr (.inr c2)))
    have c2' : (s.toList == [46, 46]) = true := beq_iff_eq.mpr c2
    clear hz
    go_enter Tryz.func99, Tryz.ntmps99
    go_wp2
    go_ret
    exact ⟨ret_i64 F.out.symm, Below.refl _ _⟩
  have c2' : (s.toList == [46, 46]) = false := beq_eq_false_iff_ne.mpr c2
  have NS : Hid (¬ special s) := Lib.hid (by rintro (h | h | h); exact c0 h; exact c1 h; exact c2 h)
  clear hz
  go_enter Tryz.func99, Tryz.ntmps99
  go_wp2
  clear c0 c0' c1 c1' c2 c2'
  go_loopw [] (fun wr => ∃ pos : Nat, Hid (bad s 0 = bad s pos) ∧ wr.heap[w.heap.size]? = some (.stringIter s pos) ∧ Hid (Below w.heap.size w wr)) (fun wr => s.size - wr.iterPos w.heap.size)
  case atStart =>
    exact ⟨0, Lib.hid rfl, World.iter_heap w s 0, Lib.hid ((Below.refl _ w).alloc (Nat.le_refl _) _)⟩
  case round =>
    obtain ⟨pos, HBd, hit, HB⟩ := hrel
    have hsz : w.heap.size < wr.heap.size := (Array.getElem?_eq_some_iff.1 hit).1
    by_cases hp : pos < s.size
    · have hnx : ∀ ty, (Instr.next (.pointer (some ⟨w.heap.size, 0, none⟩)) true ty).run Tryz.prog wr = _ := fun ty => Lib.run_next_any_at wr w.heap.size s pos ty hit hp
      have hit2 := Lib.iterAt_heap wr w.heap.size s pos (pos + (Utf8.decode s pos).2) hit
      have hb2 := Lib.below_iterAt HB.out (k := w.heap.size) (Nat.le_refl _) s (pos + (Utf8.decode s pos).2)
      have HB2 := Lib.hid hb2
      have HI := Lib.hid hit
      by_cases h24 : pos < 24
      · obtain ⟨W, hW⟩ : ∃ V, wr.iterAt w.heap.size s (pos + (Utf8.decode s pos).2) = V := ⟨_, rfl⟩
        rw [hW] at hnx hit2 HB2
        have KD := Tryz.utf8_DecodeRuneInString (s.extract pos s.size) W (tabs_from HT.out HB2.out)
        rw [decode_rest s pos hp] at KD
        have HKD := Lib.hid KD
        have OK : Hid (okAt s pos = mayB (Utf8.decode s pos).1 (Utf8.decode s pos).2) := Lib.hid rfl
        have HWD : Hid (pos + (Utf8.decode s pos).2 = pos + wd s pos) := Lib.hid rfl
        have HP := Lib.hid (wd_pos (s := s) (i := pos))
        have HIT2 := Lib.hid hit2
        rw [HWD.out] at HIT2
        obtain ⟨c, hc⟩ : ∃ c, (Utf8.decode s pos).1 = c := ⟨_, rfl⟩
        obtain ⟨n, hn⟩ : ∃ c, (Utf8.decode s pos).2 = c := ⟨_, rfl⟩
        rw [hc, hn] at HKD OK
        rw [hc] at hnx
        clear KD hb2 hit hit2 hc hn hW HWD
        go_wp2_with fail
        refine HKD.out.mono ?_
        rintro e W1 ⟨rfl, hB1⟩
        have HB3 := Lib.hid (below_step HB2.out hB1)
        have hit3 := (hB1.block _ (Array.getElem?_eq_some_iff.1 HIT2.out).1).trans HIT2.out
        have HIT3 := Lib.hid hit3
        clear hB1 hit3 hnx
        go_wp2_with fail
        refine (may_calls c n W1).mono ?_
        rintro e W2 ⟨rfl, hB2⟩
        have HB4 := Lib.hid (below_step HB3.out hB2)
        have hit4 := (hB2.block _ (Array.getElem?_eq_some_iff.1 HIT3.out).1).trans HIT3.out
        rw [← OK.out]
        have ok2 := OK.out
        cases hok : okAt s pos with
        | true =>
          have HBN : Hid (bad s 0 = bad s (pos + wd s pos)) := Lib.hid (by rw [HBd.out, bad_no hp hok])
          have hm1 := iterPos_of hit4
          have hm2 := iterPos_of HI.out
          have HM := Lib.hid (And.intro hm1 hm2)
          have HIT4 := Lib.hid hit4
          clear hok ok2 hB2 hit4 hm1 hm2
          go_wp2
          go_roundw
          case rel => exact ⟨pos + wd s pos, HBN, HIT4.out, HB4⟩
          case measure => rw [HM.out.1, HM.out.2]; have := HP.out; omega
        | false =>
          have F := Lib.hid (faultV_at NS.out (HBd.out.trans (bad_yes hp hok)) h24)
          clear hok ok2 hB2 hit4
          go_wp2
          go_ret
          exact ⟨ret_i64 F.out.symm, HB4.out⟩
      · have F := Lib.hid (faultV_long NS.out HBd.out (.inl (by omega)) (by omega))
        clear hit hb2 hit2
        go_wp2
        go_ret
        exact ⟨ret_i64 F.out.symm, HB2.out⟩
    · have hnx : ∀ ty, (Instr.next (.pointer (some ⟨w.heap.size, 0, none⟩)) true ty).run Tryz.prog wr = _ := fun ty => Lib.run_next_end_at wr w.heap.size s pos ty hit hp
      clear hit
      by_cases h24 : 24 < s.size
      · have F := Lib.hid (faultV_long NS.out HBd.out (.inr hp) h24)
        go_wp2
        go_ret
        exact ⟨ret_i64 F.out.symm, HB.out⟩
      · have F := Lib.hid (faultV_none NS.out HBd.out hp h24)
        go_wp2
        go_ret
        exact ⟨ret_i64 F.out.symm, HB.out⟩
end Go.Proofs.YtkhnjckkjdldbaaGreatDoor.Q
namespace Go.Proofs.YtkhnjckkjdldbaaGreatDoor.Q
open Go.RowKit Go.Shelf Go.Proofs.YtkhnjckkjdldbaaGreatDoorW.PrintWords Go.Proofs.YtkhnjckkjdldbaaGreatDoor.Pr
set_option linter.unusedVariables false
set_option linter.unusedSimpArgs false
attribute [local go_sem] Oper.semAt_some

/-- Of what was there only the blocks of S may have turned. -/
structure Only (S : Nat → Prop) (w w' : World) : Prop where
  os : w'.os = w.os
  tape : w'.tape = w.tape
  output : w'.output = w.output
  size : w.heap.size ≤ w'.heap.size
  block : ∀ k, k < w.heap.size → ¬ S k → w'.heap[k]? = w.heap[k]?
theorem Only.refl (S : Nat → Prop) (w : World) : Only S w w := ⟨rfl, rfl, rfl, Nat.le_refl _, fun _ _ _ => rfl⟩
theorem Only.of_below {S : Nat → Prop} {w w' : World} (h : Below w.heap.size w w') : Only S w w' := ⟨h.os, h.tape, h.output, h.size, fun k hk _ => h.block k hk⟩
/-- a frame from an earlier world on -/
theorem Only.from {S : Nat → Prop} {w0 w w' : World} (h : Only S w w') (hB : Below w0.heap.size w0 w) (hs : ∀ k, S k → w0.heap.size ≤ k) : Below w0.heap.size w0 w' :=
  ⟨h.os.trans hB.os, h.tape.trans hB.tape, h.output.trans hB.output, Nat.le_trans hB.size h.size, fun k hk => (h.block k (Nat.lt_of_lt_of_le hk hB.size) (fun s => by have := hs k s; omega)).trans (hB.block k hk)⟩
theorem Only.trans {S T : Nat → Prop} {a b c : World} (h : Only S a b) (k : Only T b c) (hs : ∀ i, i < a.heap.size → T i → S i) : Only S a c :=
  ⟨k.os.trans h.os, k.tape.trans h.tape, k.output.trans h.output, Nat.le_trans h.size k.size, fun i hi hn => (k.block i (Nat.lt_of_lt_of_le hi h.size) (fun ht => hn (hs i hi ht))).trans (h.block i hi hn)⟩
theorem Only.then_below {S : Nat → Prop} {a b c : World} (h : Only S a b) (k : Below b.heap.size b c) : Only S a c := h.trans (T := fun _ => False) (Only.of_below k) (fun _ _ => False.elim)
theorem Only.drew {S : Nat → Prop} {a b : World} (h : Only S a b) : Only S a b.drew := ⟨h.os, h.tape, h.output, h.size, h.block⟩
theorem Only.setCell {S : Nat → Prop} {a b : World} (h : Only S a b) {p : Addr} (hp : S p.block ∨ a.heap.size ≤ p.block) (u : Value) : Only S a (b.setCell p u) :=
  h.trans (T := fun k => k = p.block) ⟨rfl, rfl, rfl, by simp [World.setCell], fun k _ hk => Below.heap_setCell _ _ _ _ hk⟩ (fun i hi e => by subst e; rcases hp with hp | hp; exact hp; omega)
theorem Only.mono {S T : Nat → Prop} {w w' : World} (h : Only S w w') (hs : ∀ k, k < w.heap.size → S k → T k) : Only T w w' := ⟨h.os, h.tape, h.output, h.size, fun k hk hn => h.block k hk (fun x => hn (hs k hk x))⟩
theorem Only.keep {S : Nat → Prop} {w w' : World} (h : Only S w w') {k : Nat} (hk : k < w.heap.size) (hn : ¬ S k) : w'.heap[k]? = w.heap[k]? := h.block k hk hn
theorem Only.cell {S : Nat → Prop} {w w' : World} (h : Only S w w') {p : Addr} {v : Value} (hc : w.cell? p = some v) (hn : ¬ S p.block) : w'.cell? p = some v :=
  (World.cell?_of_block (w := w) (h.block p.block (World.block_lt_of_cell? w p hc) hn)).trans hc
theorem Only.putObj {S : Nat → Prop} {w W : World} (h : Only S w W) {l : Nat} (hl : S l) (o : Obj) : Only S w (W.putObj l o) :=
  h.trans (T := fun k => k = l) (by
    have g := grownBy_putObj' W l o
    exact ⟨g.os, g.tape, g.output, g.size, fun k hk hn => g.block k hk (fun e => hn (Option.some.inj e))⟩) (fun i _ e => e ▸ hl)
theorem Only.blk {S : Nat → Prop} {w w' : World} (h : Only S w w') {k : Nat} {o : Obj} (hk : w.heap[k]? = some o) (hn : ¬ S k) : w'.heap[k]? = some o := (h.keep (Array.getElem?_eq_some_iff.1 hk).1 hn).trans hk
theorem grown_kept {W W' : World} {row : Option Nat} {B k : Nat} {o : Obj} (hg : W.grownBy W' row) (hr : ∀ r, row = some r → B ≤ r) (hk : W.heap[k]? = some o) (hB : k < B) : W'.heap[k]? = some o :=
  (hg.block k (Array.getElem?_eq_some_iff.1 hk).1 (fun e => by have := hr k e.symm; omega)).trans hk
theorem grown_of_below {W W' : World} (h : Below W.heap.size W W') : W.grownBy W' none := ⟨h.os, h.tape, h.output, h.size, fun k hk _ => h.block k hk⟩

/-! AN ITERATOR WITH STATE OF ITS OWN IN CELLS -/
/-- It reads the blocks Zr and turns those of Zw among them; a round keeps the blocks Zr. -/
def GivesZ {α : Type} (F : Fence) (n : Nat) (P : Program) (gf : Nat) (lb : Array Value) (encs : α → Array Value) (Zr Zw : Nat → Prop) (N : Nat) (Q : List α → α → Prop) (Done Part : List α → Prop) (Pre : World → Prop) : Prop :=
  ∀ (l : Nat) (J Jx : List α → World → Prop) (W : World), Pre W → (∀ k, Zr k → k < W.heap.size) →
    OwnFrom W.heap.size J → OwnFrom W.heap.size Jx → (∀ s A C, J s A → Only Zw A C → J s C) →
    (∀ pre x A, J pre A → pre.length < N → Q pre x → YieldAt F (n - 1) P l (encs x) A fun e C =>
      (e = .returned (.bool true) ∧ J (pre ++ [x]) C ∧ Only (fun k => ¬ Zr k) A C) ∨ (e = .returned (.bool false) ∧ Jx (pre ++ [x]) C)) →
    J [] W →
    CallsIn F n P gf (#[.func (.yield l) #[] #[]] ++ lb) W fun e C => (∃ v, e = .returned v) ∧ ((∃ xs, Done xs ∧ J xs C) ∨ (∃ pre, Part pre ∧ Jx pre C))
/-- how a round's body may be left -/
def leavePost {α : Type} (B : Nat) (S : Nat → Prop) (I : List α → World → Prop) (Ix : Code → List α → World → Prop) (xs : List α) (W : World) : Exit → Act → World → Prop
  | .normal, _, C => KeepsFrom B W C ∧ Only S W C ∧ I xs C
  | .ret, _, C => KeepsFrom B W C ∧ Ix .ret xs C
  | .exit id, _, C => KeepsFrom B W C ∧ Ix (.exit id) xs C
  | .goto t, _, C => KeepsFrom B W C ∧ Ix (.goto t) xs C
  | _, _, _ => False
/-- the range over such an iterator -/
theorem range_z {F : Fence} {n : Nat} {P : Program} {α : Type} {g : Operand} {ps : Array Tmp} {assign body : Code} {Q : Exit → Act → World → Prop} {a : Act} {w : World}
    (hro : F.round = none) (h1 : 1 ≤ n) {gf : Nat} {lb : Array Value} (hg : a.eval g = .func (.func gf) #[] lb) (hFg : F.fn gf) (eg : ∀ args w, (callFunc gf args).run P w = .ok (.enter gf args) w)
    {encs : α → Array Value} {Zr Zw : Nat → Prop} {N : Nat} {Qx : List α → α → Prop} {Done Part : List α → Prop} {Pre : World → Prop} (hseq : GivesZ F (n - 1) P gf lb encs Zr Zw N Qx Done Part Pre)
    (hPre : ∀ W, Below w.heap.size w W → Pre W) (hps : ∀ x, (encs x).size = ps.size) (hZ : ∀ k, Zr k → k < w.heap.size) (hZw : ∀ k, Zw k → Zr k)
    (I : List α → World → Prop) (Ix : Code → List α → World → Prop) (hI : OwnFrom w.heap.size I) (hIx : ∀ c, OwnFrom w.heap.size (Ix c)) (hIz : ∀ s A C, I s A → Only Zw A C → I s C) (h0 : I [] w)
    (hex : ∃ a₁ : α → Act,
      (∀ (l : Nat) (x : α) (W : World) (K : Act → World → Prop), K (a₁ x) W →
        assign.wpIn (F.inRound l) (n - 1 - 1) P (Exit.then K (fun _ _ _ => False)) { tmps := (ps.zip (encs x)).foldl (fun t (p, v) => t.setIfInBounds p v) a.tmps, defers := [] } W) ∧
      (∀ (l : Nat) (pre : List α) (x : α) (W : World), I pre W → pre.length < N → Qx pre x →
        body.wpIn (F.inRound l) (n - 1 - 1) P (leavePost w.heap.size (fun k => ¬ Zr k) I Ix (pre ++ [x]) W) (a₁ x) W))
    (hdone : ∀ (xs : List α) (W : World), Done xs → I xs W → W.heap[w.heap.size]? = some (.deferred (some [])) → Q .normal { a with defers := { target := .collected w.heap.size, args := #[] } :: a.defers } W)
    (hstop : ∀ (c : Code) (pre : List α) (W : World), Part pre → Ix c pre W → W.heap[w.heap.size]? = some (.deferred (some [])) → c.wpIn F n P Q { a with defers := { target := .collected w.heap.size, args := #[] } :: a.defers } W) :
    (Code.rangeFunc g ps assign body).wpIn F n P Q a w := by
  obtain ⟨a₁, hassign, hbody⟩ := hex
  refine wpIn_rangeFunc fun fn hfn => ?_
  rw [hro]
  let R : LoopState → Option Code → Obj := fun st pe => .loop { state := st, pending := pe, fn, tmps := a.tmps, params := ps, assign, body, defers := w.heap.size }
  let Mine : LoopState → Option Code → World → Prop := fun st pe W => W.heap[w.heap.size + 1]? = some (R st pe) ∧ W.heap[w.heap.size]? = some (.deferred (some []))
  let V := (w.alloc (.deferred (some []))).alloc (R .ready none)
  have hV : V.heap.size = w.heap.size + 2 := by simp [V]
  have bV : Below w.heap.size w V := below_alloc (below_alloc (Below.refl _ w) _) _
  have mV : Mine .ready none V := ⟨by have := World.alloc_heap_new (w.alloc (.deferred (some []))) (R .ready none); rwa [World.size_alloc] at this, (Below.heap_alloc _ _ _ (by simp)).trans (World.alloc_heap_new w _)⟩
  have turn : ∀ {st : LoopState} {pe : Option Code} {W : World} (st' : LoopState) (pe' : Option Code), Mine st pe W → Mine st' pe' (W.putObj (w.heap.size + 1) (R st' pe')) := fun st' pe' h =>
    ⟨World.putObj_heap_same (Array.getElem?_eq_some_iff.1 h.1).1, (World.putObj_heap_other (by omega)).trans h.2⟩
  refine ⟨w.heap.size + 1, [{ target := .collected w.heap.size, args := #[] }], V, { target := .fn (.func gf) lb, args := #[.func (.yield (w.heap.size + 1)) #[] #[]] }, V, gf,
    #[.func (.yield (w.heap.size + 1)) #[] #[]] ++ lb, V, run_enterLoop_outer _ _ _ _ _, ?_, ?_, ?_, fun _ => h1, ?_⟩
  · simp only [resolve, hg]
    simp [go_sem]
  · intro f' hf'; simp [Target.leads] at hf'; subst hf'; exact hFg
  · simp [invoke, go_sem, eg]
  refine (hseq (w.heap.size + 1) (fun xs W => I xs W ∧ Mine .ready none W) (fun xs W => ∃ c, Ix c xs W ∧ Mine .done (some c) W) V
    (hPre V bV) (fun k hk => by have := hZ k hk; omega) ?hOwn ?hOwnX ?hOnly ?round ⟨hI.alloc _ (hI.alloc _ h0), mV⟩).mono ?behind
  case hOwn =>
    rw [hV]
    rintro s A C row ⟨hi, hm⟩ hgr hr
    exact ⟨hI s A C row hi hgr (fun r e => ⟨by have := (hr r e).1; omega, (hr r e).2⟩), grown_kept hgr (fun r e => (hr r e).1) hm.1 (by omega), grown_kept hgr (fun r e => (hr r e).1) hm.2 (by omega)⟩
  case hOwnX =>
    rw [hV]
    rintro s A C row ⟨c, hi, hm⟩ hgr hr
    exact ⟨c, hIx c s A C row hi hgr (fun r e => ⟨by have := (hr r e).1; omega, (hr r e).2⟩), grown_kept hgr (fun r e => (hr r e).1) hm.1 (by omega), grown_kept hgr (fun r e => (hr r e).1) hm.2 (by omega)⟩
  case hOnly =>
    rintro s A C ⟨hi, hm⟩ ho
    have n0 : ¬ Zw w.heap.size := fun z => by have := hZ _ (hZw _ z); omega
    have n1 : ¬ Zw (w.heap.size + 1) := fun z => by have := hZ _ (hZw _ z); omega
    exact ⟨hIz s A C hi ho, ho.blk hm.1 n1, ho.blk hm.2 n0⟩
  case round =>
    rintro pre x A ⟨hi, hm⟩ hlen hqx
    have n1 : ¬ Zr (w.heap.size + 1) := fun z => by have := hZ _ z; omega
    have hy := run_yield (P := P) (args := encs x) hm.1 (hps x)
    refine ⟨fn, _, assign, body, hy, roundIn_of_wpIn hfn (hassign _ x A _ ⟨_, run_beginRound hm.1 rfl, ?_⟩)⟩
    have hm2 := turn .busy none hm
    have o2 : Only (fun k => ¬ Zr k) A (A.putObj (w.heap.size + 1) (R .busy none)) := (Only.refl _ A).putObj n1 _
    refine wpIn_mono (hbody _ pre x _ (hI.putObj _ hi (by omega) hm.1 rfl) hlen hqx) ?_
    intro e a3 C hp
    have fin : ∀ (jump : Option Code), KeepsFrom w.heap.size (A.putObj (w.heap.size + 1) (R .busy none)) C → Mine .busy none C := fun jump hk =>
      ⟨hk.same _ _ (by omega) hm2.1 rfl, hk.same _ _ (Nat.le_refl _) hm2.2 rfl⟩
    cases e with
    | normal =>
      obtain ⟨hk, ho, hi3⟩ := hp
      have hm3 := fin none hk
      refine ⟨_, _, run_endRound (P := P) none hm3.1, .inl ⟨rfl, ⟨hI.putObj _ hi3 (by omega) hm3.1 rfl, turn .ready none hm3⟩, (o2.trans ho (fun _ _ h => h)).putObj n1 _⟩⟩
    | ret =>
      obtain ⟨hk, hi3⟩ := hp
      have hm3 := fin (some .ret) hk
      exact ⟨_, _, run_endRound (P := P) (some .ret) hm3.1, .inr ⟨rfl, .ret, (hIx _).putObj _ hi3 (by omega) hm3.1 rfl, turn .done (some .ret) hm3⟩⟩
    | exit id =>
      obtain ⟨hk, hi3⟩ := hp
      have hm3 := fin (some (.exit id)) hk
      exact ⟨_, _, run_endRound (P := P) (some (.exit id)) hm3.1, .inr ⟨rfl, .exit id, (hIx _).putObj _ hi3 (by omega) hm3.1 rfl, turn .done (some (.exit id)) hm3⟩⟩
    | goto t =>
      obtain ⟨hk, hi3⟩ := hp
      have hm3 := fin (some (.goto t)) hk
      exact ⟨_, _, run_endRound (P := P) (some (.goto t)) hm3.1, .inr ⟨rfl, .goto t, (hIx _).putObj _ hi3 (by omega) hm3.1 rfl, turn .done (some (.goto t)) hm3⟩⟩
    | panic ch => exact hp.elim
    | outgrown => exact hp.elim
  case behind =>
    rintro e C ⟨⟨v, rfl⟩, (⟨xs, hd, hi, hm⟩ | ⟨pre, hpt, c, hi, hm⟩)⟩
    · exact ⟨none, _, run_endLoop (P := P) hm.1 (by simp), hdone xs _ hd (hI.putObj _ hi (by omega) hm.1 rfl) ((World.putObj_heap_other (by omega)).trans hm.2)⟩
    · exact ⟨some c, _, run_endLoop (P := P) hm.1 (by simp), hstop c pre _ hpt ((hIx c).putObj _ hi (by omega) hm.1 rfl) ((World.putObj_heap_other (by omega)).trans hm.2)⟩
end Go.Proofs.YtkhnjckkjdldbaaGreatDoor.Q
namespace Go.Proofs.YtkhnjckkjdldbaaGreatDoor.Q
open Go.RowKit Go.Shelf Go.Proofs.YtkhnjckkjdldbaaGreatDoorW.PrintWords Go.Proofs.YtkhnjckkjdldbaaGreatDoor.Pr
set_option linter.unusedVariables false
set_option linter.unusedSimpArgs false
attribute [local go_sem] Oper.semAt_some

/-! strings.SplitSeq AT A SLASH -/
theorem extract_extract (p : ByteArray) (a i j : Nat) (ha : a ≤ p.size) (hj : j ≤ p.size - a) : (p.extract a p.size).extract i j = p.extract (a + i) (a + j) := by
  rw [ByteArray.extract_extract]
  congr 1
  omega
theorem data_getD (s : ByteArray) (i : Nat) (h : i < s.size) : s.data.toList[i]? = some (s.get! i) := by
  rw [Utf8W.get!_of_lt s i h]
  have : i < s.data.toList.length := by rw [← Lib.size_eq]; exact h
  rw [List.getElem?_eq_getElem this]
  rfl
theorem index_none (p : ByteArray) (a : Nat) (ha : a ≤ p.size) (h : Lib.indexByte (p.extract a p.size).data.toList 47 = -1) : endAt p a = p.size := by
  refine endAt_is ha (Nat.le_refl _) (fun j h1 h2 h3 => ?_) (fun h => by omega)
  have := Lib.indexByte_none h (j - a)
  have hz : (p.extract a p.size).size = p.size - a := by rw [ByteArray.size_extract]; omega
  rw [data_getD _ _ (by omega), extract_get p a _ ha, show a + (j - a) = j by omega] at this
  exact this (congrArg some (UInt8.toNat_inj.1 (by rw [h3]; rfl)))
theorem index_some (p : ByteArray) (a o : Nat) (ha : a ≤ p.size) (h : Lib.indexByte (p.extract a p.size).data.toList 47 = (o : Nat)) : a + o < p.size ∧ endAt p a = a + o := by
  obtain ⟨h1, h2⟩ := Lib.indexByte_some h
  have hz : (p.extract a p.size).size = p.size - a := by rw [ByteArray.size_extract]; omega
  have ho : o < (p.extract a p.size).size := by
    rw [Lib.size_eq]
    exact (List.getElem?_eq_some_iff.1 h1).1
  refine ⟨by omega, endAt_is (by omega) (by omega) (fun j h3 h4 h5 => ?_) (fun _ => ?_)⟩
  · have := h2 (j - a) (by omega)
    rw [data_getD _ _ (by omega), extract_get p a _ ha, show a + (j - a) = j by omega] at this
    exact this (congrArg some (UInt8.toNat_inj.1 (by rw [h5]; rfl)))
  · rw [data_getD _ _ ho, extract_get p a _ ha] at h1
    have := Option.some.inj h1
    rw [this]; rfl
theorem index_cases (l : List UInt8) (c : UInt8) : Lib.indexByte l c = -1 ∨ ∃ o : Nat, Lib.indexByte l c = o := by
  have := Lib.indexByte_ge l c
  by_cases h : Lib.indexByte l c = -1
  · exact .inl h
  · exact .inr ⟨(Lib.indexByte l c).toNat, by omega⟩
theorem blk_other (W : World) (a : Addr) (u : Value) {k : Nat} (h : k ≠ a.block) : (W.setCell a u).heap[k]? = W.heap[k]? := Below.heap_setCell _ _ _ _ h
def strLen (W : World) (b : Nat) : Nat := match W.cell? ⟨b, 0, none⟩ with
  | some (.string s) => s.size
  | _ => 0
theorem strLen_of {W : World} {b : Nat} {s : ByteArray} (h : W.cell? ⟨b, 0, none⟩ = some (.string s)) : strLen W b = s.size := by simp [strLen, h]
def encT (x : ByteArray) : Array Value := #[.string x]
def NextOf (p : ByteArray) (pre : List ByteArray) (x : ByteArray) : Prop := ∃ rest, segs p 1 = pre ++ x :: rest
set_option maxRecDepth 100000 in
set_option maxHeartbeats 4000000 in
theorem split_gives (n : Nat) (hn : 1 ≤ n) (b : Nat) (p : ByteArray) (hp : 1 ≤ p.size) (hs : p.size ≤ 4294967296) :
    GivesZ Fence.wide n Tryz.prog 116 #[.pointer (some ⟨b + 1, 0, none⟩), .pointer (some ⟨b, 0, none⟩), .pointer (some ⟨b + 2, 0, none⟩)] encT
      (fun k => k = b ∨ k = b + 1 ∨ k = b + 2) (fun k => k = b) (segs p 1).length (NextOf p) (fun xs => xs = segs p 1) (fun _ => True)
      (fun W => W.heap[b]? = some (.cells #[.string (p.extract 1 p.size)] 9 (0, 0)) ∧ W.heap[b + 1]? = some (.cells #[.string ⟨#[47]⟩] 9 (0, 0)) ∧ W.heap[b + 2]? = some (.cells #[.int .i64 0] 3 (0, 0))) :=
  fun l J Jx W ⟨hb0, hb1, hb2⟩ hZ hJ hJx hJz hY h0 => by
    have HJ := Lib.hid hJ
    have HJz := Lib.hid hJz
    have HY := Lib.hid hY
    have H1 := Lib.hid (And.intro hb1 hb2)
    have y1 : W.cell? ⟨b + 1, 0, none⟩ = some (.string ⟨#[47]⟩) := (cell_of_row W (b + 1) 0 _ _ _ hb1).trans rfl
    have h0' := Lib.hid (And.intro h0 hb0)
    clear hJ hJx hJz hY h0 hb0 hb1 hb2
    refine callsIn_of_wp Tryz.func116 rfl trivial ?_ rfl
    simp only [Tryz.ntmps116, List.size_toArray, List.length_cons, List.length_nil, Nat.reduceAdd, Nat.reduceSub, Array.replicate_succ, Array.replicate_zero, List.push_toArray, List.append_toArray, List.nil_append, List.cons_append]
    gi_wp2_with fail
    clear y1
    gi_loopw [] (fun wr => ∃ (a : Nat) (pre : List ByteArray), a ≤ p.size ∧ Hid (segs p 1 = pre ++ segs p a) ∧ Hid (J pre wr ∧ wr.heap[b]? = some (.cells #[.string (p.extract a p.size)] 9 (0, 0)) ∧ wr.heap[b + 1]? = some (.cells #[.string ⟨#[47]⟩] 9 (0, 0)) ∧ wr.heap[b + 2]? = some (.cells #[.int .i64 0] 3 (0, 0)))) (fun wr => strLen wr b)
    case atStart => exact ⟨1, [], hp, Lib.hid rfl, Lib.hid ⟨h0'.out.1, h0'.out.2, H1.out.1, H1.out.2⟩⟩
    case round =>
      clear h0' H1
      obtain ⟨a, pre, ha, HSg, T⟩ := hrel
      have x0 : wr.cell? ⟨b, 0, none⟩ = some (.string (p.extract a p.size)) := (cell_of_row wr b 0 _ _ _ T.out.2.1).trans rfl
      have x1 : wr.cell? ⟨b + 1, 0, none⟩ = some (.string ⟨#[47]⟩) := (cell_of_row wr (b + 1) 0 _ _ _ T.out.2.2.1).trans rfl
      have x2 : wr.cell? ⟨b + 2, 0, none⟩ = some (.int .i64 0) := (cell_of_row wr (b + 2) 0 _ _ _ T.out.2.2.2).trans rfl
      have hz : (p.extract a p.size).size = p.size - a := by rw [ByteArray.size_extract]; omega
      have HL := Lib.hid (strLen_of x0)
      rcases index_cases (p.extract a p.size).data.toList 47 with hi | ⟨o, hi⟩
      · -- no slash any more: the rest
        have he := index_none p a ha hi
        have hseg : segs p a = [p.extract a p.size] := by rw [segs_in ha, he, segs_out (by omega)]
        have HE := Lib.hid hseg
        have HI := Lib.hid (Tryz.strings_Index_one (p.extract a p.size) 47 wr)
        rw [hi] at HI
        have hall : segs p 1 = pre ++ [p.extract a p.size] := by rw [HSg.out, hseg]
        obtain ⟨fn, tmps, assign, body, hy, hR⟩ := HY.out pre (p.extract a p.size) wr T.out.1 (by rw [hall]; simp) ⟨[], by rw [hall]⟩
        have HAll := Lib.hid hall
        simp only [encT] at hy
        have HR := Lib.hid hR
        obtain ⟨s, hsn⟩ : ∃ s, p.extract a p.size = s := ⟨_, rfl⟩
        rw [hsn] at x0 HI hy
        have HSN := Lib.hid hsn
        clear hi he hseg hall hR hsn hz
        gi_wp2_with fail
        refine ⟨trivial, (callsIn_wide.2 HI.out).mono ?_⟩
        rintro e w1 ⟨rfl, rfl⟩
        gi_wp2_with fail
        refine HR.out.mono ?_
        rintro e W3 (⟨rfl, hJ3, hk3⟩ | ⟨rfl, hJx3⟩)
        · have HJ3 := Lib.hid hJ3
          clear hJ3 hk3 hy
          gi_wp2
          go_end0
          exact ⟨⟨_, rfl⟩, .inl ⟨_, rfl, by rw [HAll.out]; exact HJ3.out⟩⟩
        · have HJ3 := Lib.hid hJx3
          clear hJx3 hy
          gi_wp2
          go_end0
          exact ⟨⟨_, rfl⟩, .inr ⟨_, trivial, HJ3.out⟩⟩
      · obtain ⟨ho, he⟩ := index_some p a o ha hi
        have hseg : segs p a = p.extract a (a + o) :: segs p (a + o + 1) := by rw [segs_in ha, he]
        have hx : (p.extract a p.size).extract 0 o = p.extract a (a + o) := by rw [extract_extract p a 0 o ha (by omega)]; rfl
        have hx2 : (p.extract a p.size).extract (o + 1) (p.extract a p.size).size = p.extract (a + o + 1) p.size := by
          rw [hz, extract_extract p a (o + 1) (p.size - a) ha (Nat.le_refl _)]; congr 1; omega
        have HI := Lib.hid (Tryz.strings_Index_one (p.extract a p.size) 47 wr)
        rw [hi] at HI
        have hall : segs p 1 = pre ++ p.extract a (a + o) :: segs p (a + o + 1) := by rw [HSg.out, hseg]
        obtain ⟨fn, tmps, assign, body, hy, hR⟩ := HY.out pre (p.extract a (a + o)) wr T.out.1 (by rw [hall]; simp) ⟨_, hall⟩
        have HAll := Lib.hid hall
        simp only [encT] at hy
        have HR := Lib.hid hR
        rw [← hx] at hy
        obtain ⟨s, hsn⟩ : ∃ s, p.extract a p.size = s := ⟨_, rfl⟩
        rw [hsn] at x0 HI hy hz hx2
        have hso : o + 1 ≤ s.size := by omega
        have hs2 : s.size ≤ 4294967296 := by omega
        have HX2 := Lib.hid (And.intro hx2 hz)
        have HSN := Lib.hid hsn
        clear hi he hseg hall hR hsn hz hx hx2
        gi_wp2_with fail
        refine ⟨trivial, (callsIn_wide.2 HI.out).mono ?_⟩
        rintro e w1 ⟨rfl, rfl⟩
        gi_wp2_with fail
        refine HR.out.mono ?_
        rintro e W3 (⟨rfl, hJ3, hk3⟩ | ⟨rfl, hJx3⟩)
        · have b0 := hk3.blk T.out.2.1 (fun h => h (.inl rfl))
          have b1 := hk3.blk T.out.2.2.1 (fun h => h (.inr (.inl rfl)))
          have b2 := hk3.blk T.out.2.2.2 (fun h => h (.inr (.inr rfl)))
          rw [HSN.out] at b0
          have x0' : W3.cell? ⟨b, 0, none⟩ = some (.string s) := (cell_of_row W3 b 0 _ _ _ b0).trans rfl
          have x1' : W3.cell? ⟨b + 1, 0, none⟩ = some (.string ⟨#[47]⟩) := (cell_of_row W3 (b + 1) 0 _ _ _ b1).trans rfl
          have z0 := frozen_of_row W3 b 0 _ _ b0
          have HB := Lib.hid (And.intro b0 (And.intro b1 b2))
          have HJ3 := Lib.hid hJ3
          clear hJ3 hk3 hy b0 b1 b2
          gi_wp2
          have c0 := heap_setCell_same W3 b 0 _ _ (.string (s.extract (o + 1) s.size)) HB.out.1
          have e0 : (#[Value.string s]).setIfInBounds 0 (.string (s.extract (o + 1) s.size)) = #[.string (s.extract (o + 1) s.size)] := rfl
          rw [e0] at c0
          have y0 : (W3.setCell ⟨b, 0, none⟩ (.string (s.extract (o + 1) s.size))).cell? ⟨b, 0, none⟩ = some (.string (s.extract (o + 1) s.size)) := (cell_of_row _ b 0 _ _ _ c0).trans rfl
          refine ⟨⟨a + o + 1, pre ++ [p.extract a (a + o)], by omega, Lib.hid (by rw [HAll.out]; simp), Lib.hid ⟨HJz.out _ W3 _ HJ3.out ((Only.refl (fun k => k = b) W3).setCell (p := ⟨b, 0, none⟩) (.inl rfl) _), by rw [← HX2.out.1]; exact c0, (blk_other _ _ _ (by show b + 1 ≠ b; omega)).trans HB.out.2.1, (blk_other _ _ _ (by show b + 2 ≠ b; omega)).trans HB.out.2.2⟩⟩, ?_⟩
          rw [strLen_of y0, HL.out, HSN.out, ByteArray.size_extract]
          omega
        · have HJ3 := Lib.hid hJx3
          clear hJx3 hy
          gi_wp2
          refine bodyPost_ret (results_none rfl _ _ _) rfl ?_
          exact ⟨⟨_, rfl⟩, .inr ⟨_, trivial, HJ3.out⟩⟩
end Go.Proofs.YtkhnjckkjdldbaaGreatDoor.Q
