import Derived.Test.YtbcijdgpaglbnaaI
import Derived.Stop.RegionWithIn
namespace Go.Proofs.Ytbcijdgpaglbnaa.Q
open Go.RowKit Go.Shelf Go.Proofs.YtbcijdgpaglbnaaW.PrintWords Go.Deep
set_option linter.unusedVariables false
set_option linter.unusedSimpArgs false
attribute [local go_sem] Oper.semAt_some nil_neq some_neq

/-! AN ITERATOR THAT HAS BLOCKS OF ITS OWN WHILE ITS ROUNDS RUN -/
/-- It reads the blocks Z; of its own it has at most the m blocks from the heap's end at its call on; T says what is so of each thing as it comes. -/
def Gives {α : Type} (F : Fence) (n : Nat) (P : Program) (gf : Nat) (lb : Array Value) (encs : α → Array Value) (T : Nat → List α → α → World → Prop) (Z : Nat → Prop) (m N : Nat) (Done : List α → Prop) (w : World) : Prop :=
  ∀ (l : Nat) (S : Nat → Prop) (J : List α → World → Prop) (W : World), Below w.heap.size w W →
    (∀ k, S k → ¬ Z k ∧ (k < W.heap.size ∨ W.heap.size + m ≤ k)) →
    OwnFrom W.heap.size J → (∀ s A C, J s A → Only (fun k => W.heap.size ≤ k ∧ k < W.heap.size + m) A C → J s C) →
    (∀ pre x A, J pre A → pre.length < N → T (W.heap.size + m) pre x A → W.heap.size + m ≤ A.heap.size → YieldAt F (n - 1) P l (encs x) A fun e C => e = .returned (.bool true) ∧ J (pre ++ [x]) C ∧ Only S A C ∧ KeepsFrom W.heap.size A C) →
    J [] W →
    CallsIn F n P gf (#[.func (.yield l) #[] #[]] ++ lb) W fun e C => (∃ v, e = .returned v) ∧ ∃ xs, Done xs ∧ J xs C

theorem Only.putObj {S : Nat → Prop} {w W : World} (h : Only S w W) {l : Nat} (hl : S l) (o : Obj) : Only S w (W.putObj l o) :=
  h.trans (T := fun k => k = l) (by
    have g := grownBy_putObj' W l o
    exact ⟨g.os, g.tape, g.output, g.size, fun k hk hn => g.block k hk (fun e => hn (Option.some.inj e))⟩) (fun i _ e => e ▸ hl)
theorem keepsFrom_putObj {B : Nat} (W : World) {l : Nat} (hl : l < B) (o : Obj) : KeepsFrom B W (W.putObj l o) := .of_grownBy (grownBy_putObj' W l o) (fun j e => by cases e; exact hl)
theorem keepsFrom_mono {A B : Nat} {W W' : World} (h : KeepsFrom A W W') (hAB : A ≤ B) : KeepsFrom B W W' := ⟨h.size, fun k o hk => h.same k o (Nat.le_trans hAB hk)⟩
theorem grown_kept {W W' : World} {row : Option Nat} {B k : Nat} {o : Obj} (hg : W.grownBy W' row) (hr : ∀ r, row = some r → B ≤ r) (hk : W.heap[k]? = some o) (hB : k < B) : W'.heap[k]? = some o :=
  (hg.block k (Array.getElem?_eq_some_iff.1 hk).1 (fun e => by have := hr k e.symm; omega)).trans hk

/-- how a round's body may be left -/
def onlyPost {α : Type} (B : Nat) (S : Nat → Prop) (I : List α → World → Prop) (xs : List α) (W : World) : Exit → Act → World → Prop
  | .normal, _, C => KeepsFrom B W C ∧ Only S W C ∧ I xs C
  | _, _, _ => False

/-- the range over such an iterator -/
theorem range_only {F : Fence} {n : Nat} {P : Program} {α : Type} {g : Operand} {ps : Array Tmp} {assign body : Code} {Q : Exit → Act → World → Prop} {a : Act} {w : World}
    (hro : F.round = none) (h1 : 1 ≤ n) {gf : Nat} {lb : Array Value} (hg : a.eval g = .func (.func gf) #[] lb) (hFg : F.fn gf) (eg : ∀ args w, (callFunc gf args).run P w = .ok (.enter gf args) w)
    {encs : α → Array Value} {T : Nat → List α → α → World → Prop} {Z : Nat → Prop} {m N : Nat} {Done : List α → Prop} {w0 : World} (hseq : Gives F (n - 1) P gf lb encs T Z m N Done w0)
    (hb0 : Below w0.heap.size w0 w) (hps : ∀ x, (encs x).size = ps.size) (hZ : ∀ k, Z k → k < w.heap.size)
    (Sc : Nat → Prop) (hSc : ∀ k, Sc k → ¬ Z k ∧ k < w.heap.size) (hT : ∀ b pre, Own (T b pre))
    (I : List α → World → Prop) (hI : OwnFrom w.heap.size I) (hIo : ∀ s A C, I s A → Only (fun k => w.heap.size + 2 ≤ k ∧ k < w.heap.size + 2 + m) A C → I s C) (h0 : I [] w)
    (hex : ∃ a₁ : α → Act,
      (∀ (l : Nat) (x : α) (W : World) (K : Act → World → Prop), K (a₁ x) W →
        assign.wpIn (F.inRound l) (n - 1 - 1) P (Exit.then K (fun _ _ _ => False)) { tmps := (ps.zip (encs x)).foldl (fun t (p, v) => t.setIfInBounds p v) a.tmps, defers := [] } W) ∧
      (∀ (l : Nat) (pre : List α) (x : α) (W : World), I pre W → pre.length < N → T (w.heap.size + 2 + m) pre x W → w.heap.size + 2 + m ≤ W.heap.size →
        body.wpIn (F.inRound l) (n - 1 - 1) P (onlyPost w.heap.size (fun k => Sc k ∨ w.heap.size + 2 + m ≤ k) I (pre ++ [x]) W) (a₁ x) W))
    (hdone : ∀ (xs : List α) (W : World), Done xs → I xs W → W.heap[w.heap.size]? = some (.deferred (some [])) → Q .normal { a with defers := { target := .collected w.heap.size, args := #[] } :: a.defers } W) :
    (Code.rangeFunc g ps assign body).wpIn F n P Q a w := by
  obtain ⟨a₁, hassign, hbody⟩ := hex
  refine wpIn_rangeFunc fun fn hfn => ?_
  rw [hro]
  -- the record of the loop, by its state
  let R : LoopState → Obj := fun st => .loop { state := st, pending := none, fn, tmps := a.tmps, params := ps, assign, body, defers := w.heap.size }
  let Mine : LoopState → World → Prop := fun st W => W.heap[w.heap.size + 1]? = some (R st) ∧ W.heap[w.heap.size]? = some (.deferred (some []))
  let V := (w.alloc (.deferred (some []))).alloc (R .ready)
  have hV : V.heap.size = w.heap.size + 2 := by simp [V]
  have bV : Below w.heap.size w V := below_alloc (below_alloc (Below.refl _ w) _) _
  have mV : Mine .ready V := ⟨by have := World.alloc_heap_new (w.alloc (.deferred (some []))) (R .ready); rwa [World.size_alloc] at this, (Below.heap_alloc _ _ _ (by simp)).trans (World.alloc_heap_new w _)⟩
  have turn : ∀ {st : LoopState} {W : World} (st' : LoopState), Mine st W → Mine st' (W.putObj (w.heap.size + 1) (R st')) := fun st' h =>
    ⟨World.putObj_heap_same (Array.getElem?_eq_some_iff.1 h.1).1, (World.putObj_heap_other (by omega)).trans h.2⟩
  refine ⟨w.heap.size + 1, [{ target := .collected w.heap.size, args := #[] }], V, { target := .fn (.func gf) lb, args := #[.func (.yield (w.heap.size + 1)) #[] #[]] }, V, gf,
    #[.func (.yield (w.heap.size + 1)) #[] #[]] ++ lb, V, run_enterLoop_outer _ _ _ _ _, ?_, ?_, ?_, fun _ => h1, ?_⟩
  · simp only [resolve, hg]
    simp [go_sem]
  · intro f' hf'; simp [Target.leads] at hf'; subst hf'; exact hFg
  · simp [invoke, go_sem, eg]
  refine (hseq (w.heap.size + 1) (fun k => (Sc k ∨ w.heap.size + 2 + m ≤ k) ∨ k = w.heap.size + 1) (fun xs W => I xs W ∧ Mine .ready W) V
    (hb0.trans (bV.mono hb0.size)) ?hS ?hOwn ?hOnly ?round ⟨hI.alloc _ (hI.alloc _ h0), mV⟩).mono ?behind
  case hS =>
    intro k hk
    rw [hV]
    rcases hk with (hk | hk) | hk
    · exact ⟨(hSc k hk).1, .inl (by have := (hSc k hk).2; omega)⟩
    · exact ⟨fun z => by have := hZ k z; omega, .inr hk⟩
    · exact ⟨fun z => by have := hZ k z; omega, .inl (by omega)⟩
  case hOwn =>
    rw [hV]
    rintro s A C row ⟨hi, hm⟩ hgr hr
    exact ⟨hI s A C row hi hgr (fun r e => ⟨by have := (hr r e).1; omega, (hr r e).2⟩), grown_kept hgr (fun r e => (hr r e).1) hm.1 (by omega), grown_kept hgr (fun r e => (hr r e).1) hm.2 (by omega)⟩
  case hOnly =>
    rw [hV]
    rintro s A C ⟨hi, hm⟩ ho
    exact ⟨hIo s A C hi ho, (ho.keep (Array.getElem?_eq_some_iff.1 hm.1).1 (by omega)).trans hm.1, (ho.keep (Array.getElem?_eq_some_iff.1 hm.2).1 (by omega)).trans hm.2⟩
  case round =>
    rintro pre x A ⟨hi, hm⟩ hlen hx hsz
    rw [hV] at hsz hx
    have hy := run_yield (P := P) (args := encs x) hm.1 (hps x)
    refine ⟨fn, _, assign, body, hy, roundIn_of_wpIn hfn (hassign _ x A _ ⟨_, run_beginRound hm.1 rfl, ?_⟩)⟩
    have hm2 := turn .busy hm
    have o2 : Only (fun k => (Sc k ∨ w.heap.size + 2 + m ≤ k) ∨ k = w.heap.size + 1) A (A.putObj (w.heap.size + 1) (R .busy)) := (Only.refl _ A).putObj (.inr rfl) _
    have k2 : KeepsFrom V.heap.size A (A.putObj (w.heap.size + 1) (R .busy)) := keepsFrom_putObj A (by omega) _
    refine wpIn_mono (hbody _ pre x _ (hI.putObj _ hi (by omega) hm.1 rfl) hlen ((hT _ pre).putObj _ hx hm.1 rfl) (Nat.le_trans (by omega : w.heap.size + 2 + m ≤ A.heap.size) o2.size)) ?_
    intro e a3 C hp
    cases e with
    | normal =>
      obtain ⟨hk, ho, hi3⟩ := hp
      have hm3 : Mine .busy C := ⟨hk.same _ _ (by omega) hm2.1 rfl, hk.same _ _ (by omega) hm2.2 rfl⟩
      refine ⟨_, _, run_endRound (P := P) none hm3.1, rfl, ⟨hI.putObj _ hi3 (by omega) hm3.1 rfl, turn .ready hm3⟩, ?_, ?_⟩
      · exact (o2.trans ho (fun _ _ h => .inl h)).putObj (.inr rfl) _
      · exact (k2.trans (keepsFrom_mono hk (by omega))).trans (keepsFrom_putObj C (by omega) _)
    | ret => exact hp.elim
    | exit id => exact hp.elim
    | goto t => exact hp.elim
    | panic ch => exact hp.elim
    | outgrown => exact hp.elim
  case behind =>
    rintro e C ⟨⟨v, rfl⟩, xs, hd, hi, hm⟩
    refine ⟨none, _, run_endLoop (P := P) hm.1 (by simp), hdone xs _ hd (hI.putObj _ hi (by omega) hm.1 rfl) ((World.putObj_heap_other (by omega)).trans hm.2)⟩

set_option maxRecDepth 100000 in
set_option maxHeartbeats 4000000 in
theorem inner_in2 (n : Nat) (hn : 1 ≤ n) (S : Nat → Prop) (l Bs b o c : Nat) (L : List Nat) (hb : Bytes L) (hc : L.length ≤ c) (hl : L.length ≤ 1099511627776) (hbn : ¬ S b) (hBn : ¬ S Bs) (W0 : World) (J Jx : List (Nat × Nat) → World → Prop)
    (hY : ∀ pre x W, J pre W → pre.length < cnt L → x = frameAt L pre.length → W0.heap.size ≤ W.heap.size → YieldAt Fence.wide (n - 1) Try.prog l (encF b o c x) W fun e W' =>
      (e = .returned (.bool true) ∧ J (pre ++ [x]) W' ∧ Only S W W') ∨ (e = .returned (.bool false) ∧ Jx (pre ++ [x]) W'))
    (W : World) (hW0 : W0.heap.size ≤ W.heap.size) (hJ : AbidesFrom W.heap.size J) (hBs : W.cell? ⟨Bs, 0, none⟩ = some (.slice (some ⟨b, o, none⟩) L.length c)) (hcell : ∀ i, i < L.length → W.cell? ⟨b, o + i, none⟩ = some (.int .u8 (L.getD i 0))) (h0 : J [] W) :
    CallsIn Fence.wide n Try.prog 23 #[.func (.yield l) #[] #[], .pointer (some ⟨Bs, 0, none⟩)] W fun e W' => (∃ v, e = .returned v) ∧
      ((∃ ys, ys = upto (frameAt L) (cnt L) ∧ J ys W') ∨ (∃ pre, (∃ k, k ≤ cnt L ∧ pre = upto (frameAt L) k) ∧ Jx pre W')) := by
  have HW0 := Lib.hid hW0
  clear hW0
  have HB := Lib.hid hb
  have HC := Lib.hid hcell
  have HJ := Lib.hid hJ
  have HY := Lib.hid hY
  obtain ⟨i0, hi, hz0, hz1, hz2⟩ := info_parts infoB
  have KS := Lib.hid (fun j h0 hm => cut_from (P := Try.prog) 25 5 .i64 Try.underlying25 hi 1 hz1 (some ⟨b, o, none⟩) L.length c j h0 hm)
  have K0 := first_at b o c L W 0 (by omega) hcell hb hc hl
  have e0 : (if c = 0 then some (⟨b, o, none⟩ : Addr) else some ⟨b, o + 0, none⟩) = some ⟨b, o, none⟩ := by split <;> rfl
  rw [e0, Nat.sub_zero, Nat.sub_zero, List.drop_zero] at K0
  obtain ⟨v0, hv0⟩ : ∃ v, curV b o c 0 (firstB L) = v := ⟨_, rfl⟩
  rw [hv0] at K0
  have HV0 := Lib.hid hv0
  have KF := Lib.hid K0
  clear hv0 hb hcell hJ hY hi hz0 hz1 hz2 K0 e0
  refine callsIn_of_wp Try.func23 rfl trivial ?_ rfl
  simp only [Try.ntmps23, List.size_toArray, List.length_cons, List.length_nil, Nat.reduceAdd, Nat.reduceSub, Array.replicate_succ, Array.replicate_zero, List.push_toArray, List.append_toArray, List.nil_append, List.cons_append]
  gi_wp2_with fail
  refine ⟨trivial, (callsIn_wide.2 KF.out).mono ?_⟩
  rintro e w1 ⟨rfl, hB⟩
  have J1 := HJ.out [] W w1 none h0 (grown_of_below hB) (fun r e => by cases e)
  have B1 : Only S W w1 := Only.of_below hB
  have S1 := Lib.hid (And.intro J1 B1)
  clear J1 B1 hB KF h0
  gi_wp2_with fail
  gi_loopw [3, 4] (fun p v wr => ∃ k : Nat, k ≤ cnt L ∧ p = .int .i64 (posTo L k) ∧ v = curV b o c (posTo L k) (bodyN L k) ∧ Hid (J (upto (frameAt L) k) wr ∧ Only S W wr)) (fun p _ _ => L.length - (intOf p).toNat)
  case atStart => exact ⟨0, by omega, rfl, by rw [← HV0.out]; simp [bodyN, posTo], S1⟩
  case round =>
    clear S1
    obtain ⟨k, hk, rfl, rfl, T⟩ := hrel
    cases hbk : bodyN L k with
    | none =>
      have hkc : k = cnt L := by
        by_cases e : k < cnt L
        · have := cnt_some L k e; rw [hbk] at this; cases this
        · omega
      simp only [curV]
      gi_wp2
      go_end0
      exact ⟨⟨_, rfl⟩, .inl ⟨_, by rw [hkc], T.out.1⟩⟩
    | some m =>
      have hkc : k < cnt L := by
        by_cases e : k < cnt L
        · exact e
        · have : k = cnt L := by omega
          rw [this, cnt_none] at hbk; cases hbk
      obtain ⟨f1, f2, f3⟩ := body_fits hbk
      have hp := posTo_succ hbk
      have hfr : frameAt L k = (posTo L k, m) := by simp [frameAt, hbk]
      have HU := Lib.hid (upto_succ (frameAt L) k)
      rw [hfr] at HU
      obtain ⟨fn, tmps, assign, body, hy, hR⟩ := HY.out _ (posTo L k, m) wr T.out.1 (by rw [upto_length]; exact hkc) (by rw [upto_length]; exact hfr.symm) (Nat.le_trans HW0.out T.out.2.size)
      simp only [encF] at hy
      have HR := Lib.hid hR
      have HP := Lib.hid hp
      obtain ⟨p, epp⟩ : ∃ p, posTo L k = p := ⟨_, rfl⟩
      simp only [curV]
      rw [epp] at hy HP f1 ⊢
      clear hR hp hbk hfr
      have q0 : (0 : Int) ≤ (p : Int) := Int.natCast_nonneg _
      gi_wp2_with fail
      refine HR.out.mono ?_
      rintro e W3 (⟨rfl, hJ3, hk3⟩ | ⟨rfl, hJx3⟩)
      · have B3 : Only S W W3 := T.out.2.trans hk3 (fun _ _ h => h)
        have x0 := B3.cell (p := ⟨Bs, 0, none⟩) hBs hBn
        have KF2 := first_at b o c L W3 (p + 9 + m) (by omega) (fun i hi => B3.cell (p := ⟨b, o + i, none⟩) (HC.out i hi) hbn) HB.out hc hl
        have hs := KS.out ((p : Int) + (8 + (m : Int) + 1)) (by omega) (by omega)
        have et : ((p : Int) + (8 + (m : Int) + 1)).toNat = p + 9 + m := by omega
        rw [et] at hs
        have ea : (if c = p + 9 + m then (some ⟨b, o, none⟩ : Option Addr) else (some ⟨b, o, none⟩ : Option Addr).map (·.add ((p + 9 + m) * 1))) = (if c = p + 9 + m then some ⟨b, o, none⟩ else some ⟨b, o + (p + 9 + m), none⟩) := by
          simp [Addr.add_mid]
        rw [ea] at hs
        obtain ⟨A2, hA2⟩ : ∃ A, (if c = p + 9 + m then (some ⟨b, o, none⟩ : Option Addr) else some ⟨b, o + (p + 9 + m), none⟩) = A := ⟨_, rfl⟩
        rw [hA2] at hs KF2
        obtain ⟨v3, hv3⟩ : ∃ v, curV b o c (p + 9 + m) (firstB (L.drop (p + 9 + m))) = v := ⟨_, rfl⟩
        rw [hv3] at KF2
        have HK := Lib.hid KF2
        have HV3 := Lib.hid hv3
        have S3 := Lib.hid (And.intro hJ3 B3)
        clear KF2 hv3 hA2 ea et hJ3 hk3 B3 T HR
        gi_wp2_with fail
        refine ⟨trivial, (callsIn_wide.2 HK.out).mono ?_⟩
        rintro e W4 ⟨rfl, hB4⟩
        have J4 := HJ.out _ W3 W4 none S3.out.1 (grown_of_below hB4) (fun r e => by cases e)
        rw [← HU.out] at J4
        have S4 := Lib.hid (And.intro J4 (S3.out.2.then_below hB4))
        clear J4 hB4 S3 HK
        gi_wp2
        go_roundw
        case rel => exact ⟨k + 1, by omega, by rw [HP.out]; congr 1; omega, by rw [HP.out, ← HV3.out]; simp only [bodyN, HP.out]; rfl, S4⟩
        case measure => simp [intOf]; omega
      · have HX := Lib.hid hJx3
        clear hJx3
        gi_wp2
        refine bodyPost_ret (results_none rfl _ _ _) rfl ?_
        exact ⟨⟨_, rfl⟩, .inr ⟨_, ⟨k + 1, by omega, rfl⟩, by rw [HU.out]; exact HX.out⟩⟩

/-- inner's iterator -/
theorem inner_gives (n : Nat) (hn : 1 ≤ n) (Bs b o c : Nat) (L : List Nat) (w : World) (hb : Bytes L) (hc : L.length ≤ c) (hl : L.length ≤ 1099511627776)
    (hBs : w.cell? ⟨Bs, 0, none⟩ = some (.slice (some ⟨b, o, none⟩) L.length c)) (hcell : ∀ i, i < L.length → w.cell? ⟨b, o + i, none⟩ = some (.int .u8 (L.getD i 0))) :
    Gives Fence.wide n Try.prog 23 #[.pointer (some ⟨Bs, 0, none⟩)] (encF b o c) (fun _ pre x _ => x = frameAt L pre.length) (fun k => k = Bs ∨ k = b) 0 (cnt L) (fun ys => ys = upto (frameAt L) (cnt L)) w :=
  fun l S J W hW hS hJ hJo hY h0 => by
    refine (inner_in2 n hn S l Bs b o c L hb hc hl (fun s => (hS b s).1 (.inr rfl)) (fun s => (hS Bs s).1 (.inl rfl)) W J (fun _ _ => False) (fun pre x A hA hlen hx hsz => ?_) W (Nat.le_refl _)
      (fun s A C row hs hg hr => hJ s A C row hs hg (fun r e => by obtain ⟨h, o, ho, hw⟩ := hr r e; exact ⟨h, o, ho, Obj.not_cells_of_walk hw⟩)) (pw_cell_below hW hBs) (fun i hi => pw_cell_below hW (hcell i hi)) h0).mono ?_
    · obtain ⟨fn, tmps, assign, body, hy, hR⟩ := hY pre x A hA hlen hx hsz
      exact ⟨fn, tmps, assign, body, hy, hR.mono fun e C ⟨h1, h2, h3, _⟩ => .inl ⟨h1, h2, h3⟩⟩
    · rintro e C ⟨he, (⟨ys, h, hj⟩ | ⟨_, _, h⟩)⟩
      · exact ⟨he, ys, h, hj⟩
      · exact h.elim
end Go.Proofs.Ytbcijdgpaglbnaa.Q
