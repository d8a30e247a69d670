import Derived.Test.YtbcijdgpaglbnaaF
namespace Go.Proofs.Ytbcijdgpaglbnaa.Q
open Go.RowKit Go.Shelf Go.Proofs.YtbcijdgpaglbnaaW.PrintWords Go.Deep
set_option linter.unusedVariables false
set_option linter.unusedSimpArgs false
attribute [local go_sem] Oper.semAt_some nil_neq some_neq
/-- the law of a range over a function, its frame behind the assignment left open -/
theorem range_own {F : Fence} {n : Nat} {P : Program} {α : Type} {g : Operand} {ps : Array Tmp} {assign body : Code} {Q : Exit → Act → World → Prop} {a : Act} {w : World}
    (hro : F.round = none) (h1 : 1 ≤ n) {gf : Nat} {lb : Array Value} (hg : a.eval g = .func (.func gf) #[] lb) (hFg : F.fn gf) (eg : ∀ args w, (callFunc gf args).run P w = .ok (.enter gf args) w)
    {encs : α → Array Value} {Kp : World → World → Prop} {S Sp : List α → Prop} {N : Nat} {w0 : World} (hseq : SeqStopsK F (n - 1) P gf lb encs Kp S Sp N w0)
    (hKt : ∀ {A B C : World}, Kp A B → Kp B C → Kp A C) (hKb : ∀ (W : World) (l : Nat) (o o' : Obj), w.heap.size ≤ l → W.heap[l]? = some o → o.isCells = false → o.isWalk = false → Kp W (W.putObj l o')) (hb0 : Below w0.heap.size w0 w) (hps : ∀ x, (encs x).size = ps.size)
    (I : List α → World → Prop) (Ix : Code → List α → World → Prop) (hI : OwnFrom w.heap.size I) (hIx : ∀ c, OwnFrom w.heap.size (Ix c)) (h0 : I [] w)
    (hex : ∃ a₁ : α → Act,
      (∀ (l : Nat) (x : α) (W : World) (K : Act → World → Prop), K (a₁ x) W →
        assign.wpIn (F.inRound l) (n - 1 - 1) P (Exit.then K (fun _ _ _ => False)) { tmps := (ps.zip (encs x)).foldl (fun t (p, v) => t.setIfInBounds p v) a.tmps, defers := [] } W) ∧
      (∀ (l : Nat) (pre : List α) (x : α) (W : World), I pre W → pre.length < N → body.wpIn (F.inRound l) (n - 1 - 1) P (ownPostG w.heap.size Kp I Ix (pre ++ [x]) W) (a₁ x) W))
    (hdone : ∀ (D : Nat) (xs : List α) (W : World), w.heap.size ≤ D → S xs → I xs W → W.heap[D]? = some (.deferred (some [])) → Q .normal { a with defers := { target := .collected D, args := #[] } :: a.defers } W)
    (hstop : ∀ (D : Nat) (c : Code) (pre : List α) (W : World), w.heap.size ≤ D → Sp pre → Ix c pre W → W.heap[D]? = some (.deferred (some [])) → c.wpIn F n P Q { a with defers := { target := .collected D, args := #[] } :: a.defers } W) :
    (Code.rangeFunc g ps assign body).wpIn F n P Q a w := by
  obtain ⟨a₁, ha, hb⟩ := hex
  exact wpIn_rangeFunc_ownG hro h1 hg hFg eg hseq hKt hKb hb0 hps I Ix hI hIx h0 a₁ ha hb hdone hstop


set_option maxRecDepth 100000 in
set_option maxHeartbeats 2000000 in
theorem inner_nil (n : Nat) (hn : 1 ≤ n) (l Bs : Nat) (J : List (Nat × Nat) → World → Prop) (W : World) (hJ : AbidesFrom W.heap.size J) (hBs : W.cell? ⟨Bs, 0, none⟩ = some (.slice none 0 0)) (h0 : J [] W) :
    CallsIn Fence.wide n Try.prog 23 #[.func (.yield l) #[] #[], .pointer (some ⟨Bs, 0, none⟩)] W fun e W' => (∃ v, e = .returned v) ∧ J [] W' := by
  have KF := Lib.hid (first_short none 0 [] W (by simp))
  refine callsIn_of_wp Try.func23 rfl trivial ?_ rfl
  simp only [Try.ntmps23, List.size_toArray, List.length_cons, List.length_nil, Nat.reduceAdd, Nat.reduceSub, Array.replicate_succ, Array.replicate_zero, List.push_toArray, List.append_toArray, List.nil_append, List.cons_append]
  gi_wp2_with fail
  refine ⟨trivial, (callsIn_wide.2 KF.out).mono ?_⟩
  rintro e w1 ⟨rfl, rfl⟩
  gi_wp2_with fail
  gi_loopw [3, 4] (fun p v wr => p = .int .i64 0 ∧ v = .slice none 0 0 ∧ J [] wr) (fun _ _ _ => 0)
  case atStart => exact ⟨rfl, rfl, h0⟩
  case round =>
    obtain ⟨rfl, rfl, hJs⟩ := hrel
    gi_wp2
    go_end0
    exact ⟨⟨_, rfl⟩, hJs⟩
theorem onlyK_b {S : Nat → Prop} {w : World} (hS : ∀ k, w.heap.size ≤ k → S k) (W : World) (l : Nat) (o o' : Obj) (hl : w.heap.size ≤ l) (h : W.heap[l]? = some o) (_ : o.isCells = false) (_ : o.isWalk = false) : Only S W (W.putObj l o') := by
  have g := grownBy_putObj' W l o'
  exact ⟨g.os, g.tape, g.output, g.size, fun k hk hn => g.block k hk (fun e => hn (by cases e; exact hS l hl))⟩
theorem cnt_nil : cnt [] = 0 := rfl
/-- what the iterator over these bytes gives -/
theorem inner_stops (S : Nat → Prop) (n : Nat) (hn : 1 ≤ n) (Bs c : Nat) (A : Option Addr) (L : List Nat) (w : World) (hr : RdB w A L) (hA : ∀ a, A = some a → ¬ S a.block ∧ a.block < w.heap.size ∧ a.spot = none) (hb : Bytes L) (hc : L.length ≤ c) (hl : L.length ≤ 1099511627776) (hBn : ¬ S Bs)
    (hAn : A = none → c = 0) (hBs : w.cell? ⟨Bs, 0, none⟩ = some (.slice A L.length c)) :
    SeqStopsK Fence.wide n Try.prog 23 #[.pointer (some ⟨Bs, 0, none⟩)] (encF ((A.map Addr.block).getD 0) ((A.map Addr.off).getD 0) c) (Only S) (fun ys => ys = upto (frameAt L) (cnt L)) (fun pre => ∃ k, k ≤ cnt L ∧ pre = upto (frameAt L) k) (cnt L) w := fun l J Jx W hW hJ hJx hY h0 => by
  have hBs' := pw_cell_below hW hBs
  have hs := hW.size
  cases A with
  | none =>
    have hL : L = [] := by
      cases L with
      | nil => rfl
      | cons a l => obtain ⟨b, o, h, _⟩ := hr.2 (by simp); cases h
    subst hL
    rw [hAn rfl] at hBs'
    exact (inner_nil n hn l Bs J W hJ hBs' h0).mono fun e W' ⟨he, hj⟩ => ⟨he, .inl ⟨_, rfl, hj⟩⟩
  | some a =>
    obtain ⟨ab, alt, asp⟩ := hA a rfl
    obtain ⟨b, o, s⟩ := a
    dsimp only at ab alt asp
    subst asp
    refine inner_in n hn S l Bs b o c L hb hc hl ab hBn J Jx hY W hJ hBs' (fun i hi => ?_) h0
    obtain ⟨b2, o2, he, hcell⟩ := hr.2 (by omega)
    have e2 : (⟨b, o, none⟩ : Addr) = ⟨b2, o2, none⟩ := Option.some.inj he
    injection e2 with e3 e4
    subst e3 e4
    exact pw_cell_below hW (hcell i hi)
theorem inner_call (A : Option Addr) (m c : Nat) (w : World) :
    Calls Try.prog 17 #[.slice A m c] w fun e w' => e = .returned (.func (.func 23) #[] #[.pointer (some ⟨w.heap.size, 0, none⟩)]) ∧ w' = w.alloc (.cells #[.slice A m c] 25) := by
  go_enter Try.func17, Try.ntmps17
  go_wp2
  go_ret
  exact ⟨rfl, rfl⟩

/-! WHOLE -/
def lastEnd (pre : List (Nat × Nat)) : Int := match pre.getLast? with
  | none => 0
  | some x => (x.1 : Int) + (8 + (x.2 : Int) + 1)
theorem lastEnd_snoc (pre : List (Nat × Nat)) (x : Nat × Nat) : lastEnd (pre ++ [x]) = (x.1 : Int) + (8 + (x.2 : Int) + 1) := by simp [lastEnd]
theorem lastEnd_all (L : List Nat) (k : Nat) (hk : k ≤ cnt L) : lastEnd (upto (frameAt L) k) = posTo L k := by
  cases k with
  | zero => rfl
  | succ k =>
    rw [upto_succ, lastEnd_snoc]
    have := cnt_some L k (by omega)
    obtain ⟨m, hm⟩ := Option.isSome_iff_exists.1 this
    rw [posTo_succ hm]
    simp only [frameAt, hm, Option.getD_some]
    omega
set_option maxRecDepth 100000 in
set_option maxHeartbeats 4000000 in
theorem whole_calls (A : Option Addr) (c : Nat) (L : List Nat) (w : World) (hr : RdB w A L) (hA : ∀ a, A = some a → a.block < w.heap.size ∧ a.spot = none) (hAn : A = none → c = 0) (hb : Bytes L) (hc : L.length ≤ c) (hl : L.length ≤ 1099511627776) :
    Calls Try.prog 10 #[.slice A L.length c] w fun e w' => e = .returned (.int .i64 (posTo L (cnt L))) ∧ Below w.heap.size w w' := by
  refine (callsIn_wide (n := 3)).1 ?_
  refine callsIn_of_wp_marks Try.func10 rfl trivial ?_ rfl
  simp only [Try.ntmps10, List.size_toArray, List.length_cons, List.length_nil, Nat.reduceAdd, Nat.reduceSub, Array.replicate_succ, Array.replicate_zero, List.push_toArray, List.append_toArray, List.nil_append, List.cons_append]
  gi_wp2_with fail
  refine ⟨trivial, (callsIn_wide.2 (inner_call A L.length c _)).mono ?_⟩
  rintro e w1 ⟨rfl, rfl⟩
  gi_wp2_with fail
  have bn := (Boxed.new w 3 (.int .i64 0)).alloc (.cells #[.slice A L.length c] 25)
  have bs := Boxed.new (w.alloc (.cells #[.int .i64 0] 3)) 25 (.slice A L.length c)
  have hB : Below w.heap.size w ((w.alloc (.cells #[.int .i64 0] 3)).alloc (.cells #[.slice A L.length c] 25)) := below_alloc (below_alloc (Below.refl _ w) _) _
  have hsz : ((w.alloc (.cells #[.int .i64 0] 3)).alloc (.cells #[.slice A L.length c] 25)).heap.size = w.heap.size + 2 := by simp
  obtain ⟨W1, hW1⟩ : ∃ W, (w.alloc (.cells #[.int .i64 0] 3)).alloc (.cells #[.slice A L.length c] 25) = W := ⟨_, rfl⟩
  rw [World.size_alloc] at bs
  rw [hW1] at bn bs hB hsz ⊢
  rename_i K aK
  have HX := Lib.hid aK
  clear aK
  have hBn := Lib.hid hB
  refine range_own rfl (by decide) (gf := 23) (lb := #[.pointer (some ⟨w.heap.size + 1, 0, none⟩)]) rfl trivial (enters_of Try.func23 (by kernel_rfl) rfl)
    (inner_stops (fun k => k = w.heap.size ∨ W1.heap.size ≤ k) 2 (by decide) (w.heap.size + 1) c A L W1 (hr.below hB) (fun a ha => ⟨by have := (hA a ha).1; omega, by have := (hA a ha).1; omega, (hA a ha).2⟩) hb hc hl (by omega) hAn bs.cell) (fun h k => h.trans k (fun _ _ h => h)) (onlyK_b (fun k hk => .inr hk)) (Below.refl _ _) (fun _ => rfl)
    (fun pre W' => Boxed W' w.heap.size 3 (.int .i64 (lastEnd pre)) ∧ Below w.heap.size w W')
    (fun _ _ _ => False)
    (OwnFrom.and (Own.from (boxed_own w.heap.size 3 (fun pre : List (Nat × Nat) => .int .i64 (lastEnd pre))) _) (ownFrom_below (Nat.le_refl _) (by omega)))
    (fun _ _ _ _ _ hs _ _ => hs)
    ⟨bn, hB⟩ ?ex ?done ?stop
  case ex =>
    apply Exists.intro
    refine ⟨?assign, ?body⟩
    case assign =>
      intro l x W2 K hK
      simp only [encF]
      gi_wp2
      exact hK
    case body =>
      rintro l pre ⟨p, m⟩ W2 ⟨hb2, hB2⟩ hlt
      have x0 := hb2.cell
      have z0 := hb2.frozen
      have HP := Lib.hid (And.intro hb2 hB2)
      clear hb2 hB2
      gi_wp2
      exact ⟨(KeepsOthers.setCell _ _ _).from _, (Only.refl _ W2).setCell (p := ⟨w.heap.size, 0, none⟩) (.inl (.inl rfl)) _, by
        rw [lastEnd_snoc]
        exact HP.out.1.set _, HP.out.2.setCell (p := ⟨w.heap.size, 0, none⟩) (Nat.le_refl _) _⟩
  case done =>
    rintro D ys W2 hD rfl ⟨hb2, hB2⟩ hK
    rw [lastEnd_all L _ (Nat.le_refl _)] at hb2
    have x0 := hb2.cell
    refine HX.out _ _ ?_
    gi_wp2
    refine ⟨by simp, .inl ⟨_, _, rfl, run_takeDeferred hK, ?_⟩⟩
    exact ⟨_, results_tmp rfl _ _ _, rfl, hB2.trans (belowK_b (w := w) (Nat.le_refl _) W2 D _ _ (by omega) hK rfl rfl)⟩
  case stop =>
    rintro D cd pre W2 hD _ h _
    exact h.elim
end Go.Proofs.Ytbcijdgpaglbnaa.Q
