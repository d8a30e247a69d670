import Derived.Test.YtgjgafibipepeaaGreatDoorQd
namespace Go.Proofs.YtgjgafibipepeaaGreatDoor.Q
open Go.RowKit Go.Proofs.YtgjgafibipepeaaGreatDoorW.PrintWords Go.Deep Go.Maps Go.WideShapes Go.Lib
open Go.Proofs.YtgjgafibipepeaaGreatDoor.Pr (S39 S41 k39 k41 z39 z41 info41)
open Go.Proofs.YtgjgafibipepeaaGreatDoor
set_option linter.unusedVariables false
set_option linter.unusedSimpArgs false
attribute [local go_sem] Oper.semAt_some
/-! FIX: THE CLOSURE THAT PUTS AN ENTRY BEHIND A CAPTURED LIST -/
def putB (acc : List S41) (x : S41) : List S41 := if acc.any (eqE x) = true then acc else acc ++ [x]
theorem putB_le (acc : List S41) (x : S41) : (putB acc x).length ≤ acc.length + 1 := by
  unfold putB; split <;> simp
/-- the captured variable at p holds a list of one's own -/
def FixSt (w0 : World) (p : Nat) (ok : Nat → Prop) (w : World) (acc : List S41) : Prop :=
  ∃ A c, w.heap[p]? = some (.cells #[.slice A acc.length c] 22 (0, 0)) ∧ Kd.R k41 41 w w0.heap.size ok (.slice A acc.length c) acc ∧ acc.length ≤ c
set_option maxHeartbeats 2000000 in
theorem put_calls (w0 w : World) (p : Nat) (ok : Nat → Prop) (acc : List S41) (x : S41) (hok : ∀ k, ok k → k ≠ p) (hnew : ∀ k, w.heap.size ≤ k → ok k) (hpb : w0.heap.size ≤ p) (hB : Below w0.heap.size w0 w)
    (hst : FixSt w0 p ok w acc) (hl : acc.length < 1000) :
    Calls Tryz.prog 38 #[.agg #[.int .i8 x.f0, .string x.f1.f0, .string x.f1.f1], .pointer (some ⟨p, 0, none⟩)] w fun e w' => (∃ v, e = .returned v) ∧ FixSt w0 p ok w' (putB acc x) ∧ Below w0.heap.size w0 w' ∧ w.heap.size ≤ w'.heap.size ∧
      ∀ k, k < w.heap.size → k ≠ p → ¬ ok k → w'.heap[k]? = w.heap[k]? := by
  obtain ⟨A, c, hp, hR, hc⟩ := hst
  obtain ⟨q, s, m⟩ := x
  dsimp only
  have hpl := blk_lt hp
  obtain ⟨W1, hW1⟩ : ∃ W, w.alloc (.cells #[.int .i8 q, .string s, .string m] 41) = W := ⟨_, rfl⟩
  have hB1 : Below w.heap.size w W1 := by rw [← hW1]; exact below_alloc (Below.refl _ w) _
  have hz1 : W1.heap[w.heap.size]? = some (.cells #[.int .i8 q, .string s, .string m] 41 (0, 0)) := by rw [← hW1]; exact World.alloc_heap_new _ _
  have hp1 : W1.heap[p]? = _ := blk_below hp hB1
  have hR1 := Kd.R_below hR hB1
  have c1 : W1.cell? ⟨p, 0, none⟩ = some (.slice A acc.length c) := cell_row hp1 rfl
  have cx0 := cell_row (k := 0) (v := .int .i8 q) hz1 rfl
  have cx1 := cell_row (k := 1) (v := .string s) hz1 rfl
  have cx2 := cell_row (k := 2) (v := .string m) hz1 rfl
  have KC := Lib.hid (Pr.api_Entry_39.calls (acc.length + 1) A c acc q s m _ W1 (Kd.R_reads' hR1).2.2 hc (eqE_con acc (by omega) ⟨q, ⟨s, m⟩⟩ (acc.length + 1) (by omega)))
  have HALL := Lib.hid (And.intro hB (And.intro hB1 (And.intro hz1 (And.intro hp1 hR1))))
  unfold putB
  generalize acc.any (eqE ⟨q, ⟨s, m⟩⟩) = b at KC ⊢
  clear hB hz1 hp1 hR1 hR hp
  go_enter Tryz.func38, Tryz.ntmps38
  go_wp2_with fail
  refine KC.out.mono ?_
  rintro e w1 ⟨rfl, hB2⟩
  have hB12 := below_step HALL.out.2.1 hB2
  have hp2 : w1.heap[p]? = some (.cells #[.slice A acc.length c] 22 (0, 0)) := blk_below HALL.out.2.2.2.1 hB2
  have hz2 : w1.heap[w.heap.size]? = some (.cells #[.int .i8 q, .string s, .string m] 41 (0, 0)) := blk_below HALL.out.2.2.1 hB2
  have hR2 := Kd.R_below HALL.out.2.2.2.2 hB2
  have HB := Lib.hid (below_step HALL.out.1 hB12)
  have H12 := Lib.hid hB12
  have hsz : w.heap.size ≤ w1.heap.size := hB12.size
  have HP2 := Lib.hid hp2
  have HR2 := Lib.hid hR2
  cases b
  · have c2 : w1.cell? ⟨p, 0, none⟩ = some (.slice A acc.length c) := cell_row hp2 rfl
    have cy0 := cell_row (k := 0) (v := .int .i8 q) hz2 rfl
    have cy1 := cell_row (k := 1) (v := .string s) hz2 rfl
    have cy2 := cell_row (k := 2) (v := .string m) hz2 rfl
    have HFR := Lib.hid hp2
    clear c1 cx0 cx1 cx2 KC HALL hB2 hB12 hp2 hz2 hR2 hW1 hB1
    go_wp2_with (first | ((with_reducible refine gate_builtin (b := .append) (xs := #[.tmp 7, .tmp 9]) rfl ?_); at_builtin; refine Kd.R_append k41 (w0 := w0) w0.heap.size rfl (.tmp 7) (.tmp 9) 22 41 (.agg #[(.int .i8 0), (.string ⟨#[]⟩), (.string ⟨#[]⟩)]) 40 rfl Tryz.underlying22 info41 rfl (by decide) (by omega) (.slice A acc.length c) acc ⟨q, ⟨s, m⟩⟩ [.int .i8 q, .string s, .string m] ok (fun _ => False) rfl rfl ?aP (fun _ hk => hk.elim) ?aF HR2.out HB.out ?aS ?aL ?_; (case aP => exact Pr.k41_mkM _ _ _ ⟨q, ⟨s, m⟩⟩); (case aF => exact fun k hk => hnew k (Nat.le_trans hsz hk)); (case aS => exact below_size HB.out); (case aL => omega); intro v2 w2 ho hb hg hat; obtain ⟨A2, c2', rfl⟩ := Kd.R_slice ho; have hpne : some p ≠ (Value.slice A acc.length c).ownBlock := Kd.R_away HR2.out (fun k h => hok k h); have hp3 : w2.heap[p]? = some (.cells #[.slice A acc.length c] 22 (0, 0)) := blk_grown HP2.out hg hpne; have cz : w2.cell? ⟨p, 0, none⟩ = some (.slice A acc.length c) := (cell_row hp3 rfl); have fz : w2.frozen? ⟨p, 0, none⟩ = false := blk_frozen hp3 0; have HH := Lib.hid (And.intro ho (And.intro hb (And.intro hg hp3))); clear ho hb hg hat hp3))
    all_goals (
      go_end0
      obtain ⟨ho, hb, hg, hp3⟩ := HH.out
      have hlen : (acc ++ [(⟨q, ⟨s, m⟩⟩ : S41)]).length = acc.length + 1 := by simp
      rw [hlen] at ho
      have hp4 := one_setCell (u := .slice A2 (acc.length + 1) c2') hp3
      have hR4 := Kd.R_far ho (p := ⟨p, 0, none⟩) (fun k h => hok k h) (.slice A2 (acc.length + 1) c2')
      refine ⟨⟨_, rfl⟩, ⟨A2, c2', by rw [hlen]; exact hp4, by rw [hlen]; exact hR4, by rw [hlen]; exact (Kd.R_reads' hR4).2.1⟩, hb.setCell (p := ⟨p, 0, none⟩) hpb _, ?_, ?_⟩
      · rw [show ∀ (W : World) (a : Addr) (u : Value), (W.setCell a u).heap.size = W.heap.size from fun W a u => by simp [World.setCell]]
        exact Nat.le_trans hsz hg.size
      · intro k hk hkp hnk
        rw [Below.heap_setCell _ _ _ _ hkp, hg.block k (Nat.lt_of_lt_of_le hk hsz) (fun e => hnk (HR2.out.1 k e.symm))]
        exact H12.out.block k hk)
  · clear c1 cx0 cx1 cx2 KC HALL hB2 hp2 hz2 hR2 hW1 hB1 hB12
    go_wp2
    go_end0
    exact ⟨⟨_, rfl⟩, ⟨A, c, HP2.out, HR2.out, hc⟩, HB.out, hsz, fun k hk _ _ => H12.out.block k hk⟩
end Go.Proofs.YtgjgafibipepeaaGreatDoor.Q
namespace Go.Proofs.YtgjgafibipepeaaGreatDoor.Q
open Go.RowKit Go.Proofs.YtgjgafibipepeaaGreatDoorW.PrintWords Go.Deep Go.Maps Go.WideShapes Go.Lib
open Go.Proofs.YtgjgafibipepeaaGreatDoor.Pr (S39 S41 k39 k41 z39 z41 info41)
open Go.Proofs.YtgjgafibipepeaaGreatDoor
set_option linter.unusedVariables false
set_option linter.unusedSimpArgs false
attribute [local go_sem] Oper.semAt_some
/-! FIX -/
def authB (x : S41) : Bool := x.f1.f0.toList == sAuth
def namedB (x : S39) : Bool := x.f0.toList == sName
def putAll (acc : List S41) (q : Int) (ids : List S39) : List S41 := ids.foldl (fun a i => if namedB i then putB a ⟨q, i⟩ else a) acc
def fixLoop (who : List S39) : List S41 → List S41 → Option (List S41)
  | [], acc => some acc
  | x :: r, acc => if authB x = true then (if who.any namedB = true then fixLoop who r (putAll acc x.f0 who) else none) else fixLoop who r (putB acc x)
def bWorld : ByteArray := ⟨#[119, 111, 114, 108, 100]⟩
def bAnyone : ByteArray := ⟨#[97, 110, 121, 111, 110, 101]⟩
def openE : S41 := ⟨31, ⟨bWorld, bAnyone⟩⟩
def fixB (l : List S41) (who : List S39) : Option (List S41) :=
  if checkB l = true then (if checkIB who = true then (if l.length = 0 then some [openE] else (fixLoop who l []).bind fun f => if f.length ≤ 4 then some f else none) else none) else none
/-- what Fix hands back -/
def FixOut (w : World) (r : Option (List S41)) (e : Ending) (w' : World) : Prop :=
  match r with
  | none => e = .returned (.tuple #[.slice none 0 0, errV false])
  | some f => ∃ v, e = .returned (.tuple #[v, errV true]) ∧ Kd.R k41 41 w' w.heap.size (fun _ => True) v f
theorem row_lit {α : Type} (d : Kd α) (W : World) (base e : Nat) (ok : Nat → Prop) {xs : List α} {inner : List Value} (hrep : Reps (d.M W base (fun _ => False)) d.sz xs inner) (hfresh : ok W.heap.size) (hbase : base ≤ W.heap.size) (hm : xs.length ≤ 9223372036854775807) :
    d.R e (W.alloc (.cells inner.toArray e)) base ok (.slice (some ⟨W.heap.size, 0, none⟩) xs.length xs.length) xs := by
  refine ⟨fun k hk => ?_, inner, ?_, ?_⟩
  · have : W.heap.size = k := by simpa [Value.ownBlock] using hk
    subst this
    exact hfresh
  · have h2 := World.ownsRow_lit (base := base) (e := e) (size := d.sz) W inner.toArray xs.length hbase (by simpa [maxLen] using hm) (by simpa using hrep.1)
    simpa using h2
  · refine hrep.imp_ (fun p c hp => d.M_mono (fun k hk => hk.1.elim) (Kd.M_below (d.M_bound hp) (below_alloc (Below.refl _ _) _)))
theorem reps_E (W : World) (base : Nat) : ∀ xs : List S41, Reps (k41.M W base (fun _ => False)) k41.sz xs (xs.flatMap encE)
  | [] => ⟨by simp, fun j p h => by simp at h⟩
  | x :: r => by
    have ih := reps_E W base r
    refine ⟨by have := ih.1; simp only [List.flatMap_cons, List.length_append, List.length_cons]; rw [this, show k41.sz = 3 from rfl]; simp; omega, fun j p h => ?_⟩
    cases j with
    | zero =>
      obtain rfl : x = p := by simpa using h
      simpa [show k41.sz = 3 from rfl] using Pr.k41_mkM W base (fun _ => False) x
    | succ j =>
      have h2 := ih.2 j p (by simpa using h)
      rw [show k41.sz = 3 from rfl] at h2 ⊢
      have e : (j + 1) * 3 = (encE x).length + j * 3 := by simp; omega
      rw [e, List.flatMap_cons, ← List.drop_drop, List.drop_left]
      exact h2
theorem reps_I (W : World) (base : Nat) : ∀ xs : List S39, Reps (k39.M W base (fun _ => False)) k39.sz xs (xs.flatMap encI)
  | [] => ⟨by simp, fun j p h => by simp at h⟩
  | x :: r => by
    have ih := reps_I W base r
    refine ⟨by have := ih.1; simp only [List.flatMap_cons, List.length_append, List.length_cons]; rw [this, show k39.sz = 2 from rfl]; simp; omega, fun j p h => ?_⟩
    cases j with
    | zero =>
      obtain rfl : x = p := by simpa using h
      simpa [show k39.sz = 2 from rfl] using Pr.k39_mkM W base (fun _ => False) x
    | succ j =>
      have h2 := ih.2 j p (by simpa using h)
      rw [show k39.sz = 2 from rfl] at h2 ⊢
      have e : (j + 1) * 2 = (encI x).length + j * 2 := by simp; omega
      rw [e, List.flatMap_cons, ← List.drop_drop, List.drop_left]
      exact h2
end Go.Proofs.YtgjgafibipepeaaGreatDoor.Q
namespace Go.Proofs.YtgjgafibipepeaaGreatDoor.Q
open Go.RowKit Go.Proofs.YtgjgafibipepeaaGreatDoorW.PrintWords Go.Deep Go.Maps Go.WideShapes Go.Lib
open Go.Proofs.YtgjgafibipepeaaGreatDoor.Pr (S39 S41 k39 k41 z39 z41 info41)
open Go.Proofs.YtgjgafibipepeaaGreatDoor
set_option linter.unusedVariables false
set_option linter.unusedSimpArgs false
attribute [local go_sem] Oper.semAt_some
/-! FIX: THE WALK -/
theorem checkB_le {l : List S41} (h : checkB l = true) : l.length ≤ 4 := by
  unfold checkB at h; simp at h; exact h.1
theorem checkIB_le {l : List S39} (h : checkIB l = true) : l.length ≤ 4 := by
  unfold checkIB at h; simp at h; exact h.1
theorem FixSt.below {w0 W W' : World} {p : Nat} {ok : Nat → Prop} {acc : List S41} (h : FixSt w0 p ok W acc) (hb : Below W.heap.size W W') : FixSt w0 p ok W' acc :=
  let ⟨A, c, hp, hR, hc⟩ := h
  ⟨A, c, blk_below hp hb, Kd.R_below hR hb, hc⟩
theorem FixSt.elder {w0 W : World} {p g : Nat} {ok : Nat → Prop} {acc : List S41} (h : FixSt w0 p ok W acc) (hg : W.heap.size ≤ g) : FixSt w0 p (fun k => ok k ∧ k ≠ g) W acc :=
  let ⟨A, c, hp, hR, hc⟩ := h
  ⟨A, c, hp, Kd.R_elderB hR g hg, hc⟩
theorem FixSt.weak {w0 W : World} {p : Nat} {ok ok' : Nat → Prop} {acc : List S41} (h : FixSt w0 p ok W acc) (ho : ∀ k, ok k → ok' k) : FixSt w0 p ok' W acc :=
  let ⟨A, c, hp, hR, hc⟩ := h
  ⟨A, c, hp, Kd.R_mono hR ho, hc⟩
theorem putAll_take (acc : List S41) (q : Int) (who : List S39) (n : Nat) (h : n < who.length) :
    putAll acc q (who.take (n + 1)) = if namedB who[n] = true then putB (putAll acc q (who.take n)) ⟨q, who[n]⟩ else putAll acc q (who.take n) := by
  unfold putAll
  rw [List.take_add_one, List.foldl_append, List.getElem?_eq_getElem h]
  simp
set_option maxHeartbeats 4000000 in
theorem fix_calls (A0 A1 : Option Addr) (c0 c1 : Nat) (l : List S41) (who : List S39) (w : World) (hr0 : Kd.C k41 w A0 l.length l) (hc0 : l.length ≤ c0) (hr1 : Kd.C k39 w A1 who.length who) (hc1 : who.length ≤ c1)
    (hsl : ∀ x ∈ l, smE x) (hsw : ∀ x ∈ who, smI x) (hl : l.length < 2147483648) (hw : who.length < 2147483648) (hE : Env w) :
    Calls Tryz.prog 19 #[.slice A0 l.length c0, .slice A1 who.length c1] w fun e w' => FixOut w (fixB l who) e w' ∧ Below w.heap.size w w' := by
  have K1 := Lib.hid (check_calls A0 c0 l w hr0 hc0 hsl hl hE)
  have K2 : Hid (∀ W, Below w.heap.size w W → Calls Tryz.prog 10 #[.slice A1 who.length c1] W fun e w' => e = .returned (errV (checkIB who)) ∧ Below W.heap.size W w') :=
    Lib.hid fun W hb => checkIds_calls A1 c1 who W (Kd.C_below hr1 hb) hc1 hsw hw (hE.below hb)
  have HR0 := Lib.hid hr0
  have HR1 := Lib.hid hr1
  have HE := Lib.hid hE
  unfold fixB
  cases hb1 : checkB l
  · rw [hb1] at K1
    clear K2 hb1 hr0 hr1 hsl hsw hE
    rw [if_neg (by simp)]
    go_enter Tryz.func19, Tryz.ntmps19
    go_wp2_with fail
    refine K1.out.mono ?_
    rintro e w1 ⟨rfl, hB1⟩
    have HB1 := Lib.hid hB1
    clear K1 hB1
    unfold errV
    go_wp2
    go_ret2
    exact ⟨rfl, HB1.out⟩
  · have hl4 := checkB_le hb1
    rw [hb1] at K1
    rw [if_pos rfl]
    cases hb2 : checkIB who
    · rw [hb2] at K2
      clear hb1 hb2 hr0 hr1 hsl hsw hE
      rw [if_neg (by simp)]
      go_enter Tryz.func19, Tryz.ntmps19
      go_wp2_with fail
      refine K1.out.mono ?_
      rintro e w1 ⟨rfl, hB1⟩
      have HB1 := Lib.hid hB1
      have K3 := Lib.hid (K2.out w1 hB1)
      clear K1 K2 hB1
      unfold errV
      go_wp2_with fail
      refine K3.out.mono ?_
      rintro e w2 ⟨rfl, hB2⟩
      have HB2 := Lib.hid (below_step HB1.out hB2)
      clear K3 hB2
      unfold errV
      go_wp2
      go_ret2
      exact ⟨rfl, HB2.out⟩
    · have hw4 := checkIB_le hb2
      rw [hb2] at K2
      clear hb1 hb2 hr0 hr1 hsl hsw hE
      rw [if_pos rfl]
      by_cases hz : l.length = 0
      · rw [if_pos hz]
        rw [hz] at K1 ⊢
        go_enter Tryz.func19, Tryz.ntmps19
        go_wp2_with fail
        refine K1.out.mono ?_
        rintro e w1 ⟨rfl, hB1⟩
        have HB1 := Lib.hid hB1
        have K3 := Lib.hid (K2.out w1 hB1)
        clear K1 K2 hB1
        unfold errV
        go_wp2_with fail
        refine K3.out.mono ?_
        rintro e w2 ⟨rfl, hB2⟩
        have HB2 := Lib.hid (below_step HB1.out hB2)
        clear K3 hB2
        unfold errV
        go_wp2
        go_ret2
        exact ⟨⟨_, rfl, row_lit k41 w2 w.heap.size 41 (fun _ => True) (reps_E w2 w.heap.size [openE]) trivial HB2.out.size (by simp)⟩, below_alloc HB2.out _⟩
      · rw [if_neg hz]
        have q1 : decide ((l.length : Int) = 0) = false := decide_eq_false (by omega)
        go_enter Tryz.func19, Tryz.ntmps19
        go_wp2_with fail
        refine K1.out.mono ?_
        rintro e w1 ⟨rfl, hB1⟩
        have HB1 := Lib.hid hB1
        have K3 := Lib.hid (K2.out w1 hB1)
        clear K1 K2 hB1
        unfold errV
        go_wp2_with fail
        refine K3.out.mono ?_
        rintro e w2 ⟨rfl, hB2⟩
        have HB2 := Lib.hid (below_step HB1.out hB2)
        clear K3 hB2
        unfold errV
        go_wp2_with fail
        have HP0 := Lib.hid (World.alloc_heap_new w2 (.cells #[.slice none 0 0] 22))
        have HB3 := Lib.hid (below_alloc HB2.out (.cells #[.slice none 0 0] 22))
        have hpw : w.heap.size ≤ w2.heap.size := HB2.out.size
        rw [show (((l.length : Nat) : Int) == 0) = false from beq_eq_false_iff_ne.2 (by omega)]
        go_loopw [30] (fun vi wr => ∃ (x : Int) (acc : List S41), vi = .int .i64 x ∧ 0 ≤ x ∧ x ≤ (l.length : Int) ∧ (acc.length : Int) ≤ 5 * x ∧ Hid (fixLoop who (l.drop x.toNat) acc = fixLoop who l []) ∧ Hid (FixSt w w2.heap.size (fun k => k ≠ w2.heap.size) wr acc) ∧ Hid (Below w.heap.size w wr) ∧ w2.heap.size < wr.heap.size) (fun vi _ => ((l.length : Int) - intOf vi).toNat)
        case atStart =>
          exact ⟨0, [], rfl, by omega, by omega, by simp, Lib.hid rfl, Lib.hid ⟨none, 0, HP0.out, Kd.R_nil _ _ _ _ _, Nat.le_refl _⟩, HB3, by simp⟩
        case round =>
          obtain ⟨x, acc, rfl, x0, xl, hacc, HL, HS, HB, hpr⟩ := hrel
          clear HP0 HB3
          by_cases c2 : x < (l.length : Int)
          · have q2 : decide (x < (l.length : Int)) = true := decide_eq_true c2
            obtain ⟨el, hel⟩ : ∃ y, Pr.rd_T41 l x = y := ⟨_, rfl⟩
            obtain ⟨ad, eA, hx0, hx1, hx2⟩ := Pr.at_T41 HR0.out x x0 c2
            cases eA
            rw [hel] at hx0 hx1 hx2
            replace hx0 := pw_cell_below HB.out hx0
            replace hx1 := pw_cell_below HB.out hx1
            replace hx2 := pw_cell_below HB.out hx2
            have HD : Hid (l.drop x.toNat = el :: l.drop (x + 1).toNat) := Lib.hid (by
              have hlt : x.toNat < l.length := by omega
              rw [List.drop_eq_getElem_cons hlt, show (x + 1).toNat = x.toNat + 1 by omega, ← hel]
              simp [Pr.rd_T41, List.getD, List.getElem?_eq_getElem hlt])
            obtain ⟨q, s, m⟩ := el
            dsimp only at hx0 hx1 hx2
            clear hel
            have x0' := eq_true x0
            have c2' := eq_true c2
            go_wp2_with fail
            refine (Pr.acl_isAuth.calls q s m _ _ rfl).mono ?_
            rintro e w3 ⟨rfl, hB3⟩
            have hB4 := below_step (below_alloc (Below.refl _ wr) (.cells #[.int .i8 q, .string s, .string m] 41)) hB3
            have HZ := Lib.hid (block_of hB3 (World.alloc_heap_new wr (.cells #[.int .i8 q, .string s, .string m] 41)))
            have HB4 := Lib.hid (below_step HB.out hB4)
            have HS4 := Lib.hid (HS.out.below hB4)
            have HS6 := Lib.hid ((HS.out.elder (Nat.le_refl _)).below hB4)
            have hgp : wr.heap.size ≠ w2.heap.size := by omega
            have hsz := hB4.size
            have hgt : wr.heap.size < w3.heap.size := (Array.getElem?_eq_some_iff.1 HZ.out).1
            clear hx0 hx1 hx2 hB3 HS
            cases hau : (s.toList == ([97, 117, 116, 104] : List UInt8))
            · have hy0 := cell_row (k := 0) (v := .int .i8 q) HZ.out rfl
              have hy1 := cell_row (k := 1) (v := .string s) HZ.out rfl
              have hy2 := cell_row (k := 2) (v := .string m) HZ.out rfl
              go_wp2_with fail
              refine (put_calls w w3 w2.heap.size (fun k => k ≠ w2.heap.size) acc ⟨q, ⟨s, m⟩⟩ (fun k h => h) (fun k h => by omega) hpw HB4.out HS4.out (by omega)).mono ?_
              rintro e w4 ⟨⟨v, rfl⟩, hS5, hB5, hs5, _⟩
              have HS5 := Lib.hid hS5
              have HB5 := Lib.hid hB5
              have hle := putB_le acc ⟨q, ⟨s, m⟩⟩
              have HL5 : Hid (fixLoop who (l.drop (x + 1).toNat) (putB acc ⟨q, ⟨s, m⟩⟩) = fixLoop who l []) := Lib.hid (by
                rw [← HL.out, HD.out, fixLoop, if_neg (by rw [show authB ⟨q, ⟨s, m⟩⟩ = false from hau]; simp)])
              clear HS6 hS5 hB5 hy0 hy1 hy2 HL HD HZ HS4 HB4 hB4
              go_wp2
              go_roundw
              case measure => simp [intOf]; omega
              case rel => exact ⟨x + 1, _, rfl, by omega, by omega, by omega, HL5, HS5, HB5, by omega⟩
            · have hl5 : acc.length ≤ 20 := by omega
              obtain ⟨g, hg⟩ : ∃ g, wr.heap.size = g := ⟨_, rfl⟩
              rw [hg] at HZ HS6 hgp hgt
              have hwg : w.heap.size ≤ g := by omega
              go_wp2_with fail
              have hp3 : w2.heap.size < w3.heap.size := by omega
              clear hg hB4 HB hsz hpr HS4
              go_loopw [42, 10] (fun vi vn wr => ∃ (y : Int) (acc2 : List S41), vi = .int .i64 y ∧ 0 ≤ y ∧ y ≤ (who.length : Int) ∧ vn = .bool ((who.take y.toNat).any namedB) ∧ (acc2.length : Int) ≤ acc.length + y ∧ Hid (putAll acc q (who.take y.toNat) = acc2) ∧ Hid (FixSt w w2.heap.size (fun k => k ≠ w2.heap.size ∧ k ≠ g) wr acc2) ∧ Hid (Below w.heap.size w wr) ∧ Hid (wr.heap[g]? = some (.cells #[.int .i8 q, .string s, .string m] 41 (0, 0))) ∧ w2.heap.size < wr.heap.size) (fun vi _ _ => ((who.length : Int) - intOf vi).toNat)
              case atStart => exact ⟨0, acc, rfl, by omega, by omega, by simp, by omega, Lib.hid rfl, HS6, HB4, HZ, hp3⟩
              case round =>
                obtain ⟨y, acc2, rfl, y0, yl, rfl, hac2, HP, HS7, HB7, HG, hpr⟩ := hrel
                clear HS6 HB4 HZ
                by_cases c3 : y < (who.length : Int)
                · have q3 : decide (y < (who.length : Int)) = true := decide_eq_true c3
                  obtain ⟨id, hid⟩ : ∃ z, Pr.rd_T39 who y = z := ⟨_, rfl⟩
                  obtain ⟨ad1, eA1, hi0, hi1⟩ := Pr.at_T39 HR1.out y y0 c3
                  cases eA1
                  rw [hid] at hi0 hi1
                  replace hi0 := pw_cell_below HB7.out hi0
                  replace hi1 := pw_cell_below HB7.out hi1
                  have hlt : y.toNat < who.length := by omega
                  have hwy : who[y.toNat] = id := by
                    rw [← hid]
                    simp [Pr.rd_T39, List.getD, List.getElem?_eq_getElem hlt]
                  have HPT := Lib.hid (putAll_take acc q who y.toNat hlt)
                  have HAN : Hid ((who.take (y + 1).toNat).any namedB = ((who.take y.toNat).any namedB || namedB id)) := Lib.hid (by
                    rw [show (y + 1).toNat = y.toNat + 1 by omega, List.take_add_one, List.any_append, List.getElem?_eq_getElem hlt, hwy]
                    simp)
                  obtain ⟨n, m2⟩ := id
                  dsimp only at hi0 hi1
                  clear hid
                  have y0' := eq_true y0
                  have c3' := eq_true c3
                  have hBW := below_alloc (Below.refl _ wr) (.cells #[.string n, .string m2] 39)
                  have HS8 := Lib.hid (HS7.out.below hBW)
                  have HB8 := Lib.hid (below_step HB7.out hBW)
                  have hG8 := blk_below HG.out hBW
                  have hg0 := cell_row (k := 0) (v := .int .i8 q) hG8 rfl
                  have hgl := blk_lt HG.out
                  have HG8 := Lib.hid hG8
                  have hs8 := hBW.size
                  clear hBW hG8
                  cases hnm : (n.toList == ([110, 97, 109, 101] : List UInt8))
                  · go_wp2
                    go_roundw
                    case measure => simp [intOf]; omega
                    case rel =>
                      refine ⟨y + 1, acc2, rfl, by omega, by omega, ?_, by omega, Lib.hid ?_, HS8, HB8, HG8, by omega⟩
                      · rw [HAN.out, show namedB ⟨n, m2⟩ = false from hnm]; simp
                      · rw [show (y + 1).toNat = y.toNat + 1 by omega, HPT.out, hwy, show namedB ⟨n, m2⟩ = false from hnm, HP.out]; simp
                  · go_wp2_with fail
                    refine (put_calls w _ w2.heap.size (fun k => k ≠ w2.heap.size ∧ k ≠ g) acc2 ⟨q, ⟨n, m2⟩⟩ (fun k h => h.1) (fun k h => ⟨by omega, by omega⟩) hpw HB8.out HS8.out (by omega)).mono ?_
                    rintro e w4 ⟨⟨v, rfl⟩, hS9, hB9, hs9, hkeep⟩
                    have HS9 := Lib.hid hS9
                    have HB9 := Lib.hid hB9
                    have hle := putB_le acc2 ⟨q, ⟨n, m2⟩⟩
                    have HG9 := Lib.hid ((hkeep g (by omega) hgp (fun h => h.2 rfl)).trans HG8.out)
                    clear hS9 hB9 hkeep hi0 hi1 hg0 HS8 HB8 HG8
                    go_wp2
                    go_roundw
                    case measure => simp [intOf]; omega
                    case rel =>
                      refine ⟨y + 1, putB acc2 ⟨q, ⟨n, m2⟩⟩, rfl, by omega, by omega, ?_, by omega, Lib.hid ?_, HS9, HB9, HG9, by omega⟩
                      · rw [HAN.out, show namedB ⟨n, m2⟩ = true from hnm]; simp
                      · rw [show (y + 1).toNat = y.toNat + 1 by omega, HPT.out, hwy, show namedB ⟨n, m2⟩ = true from hnm, HP.out]; simp
                · have q3 : decide (y < (who.length : Int)) = false := decide_eq_false c3
                  rw [List.take_of_length_le (by omega)] at HP ⊢
                  have HL6 : Hid (fixLoop who l [] = if who.any namedB = true then fixLoop who (l.drop (x + 1).toNat) acc2 else none) := Lib.hid (by
                    rw [← HL.out, HD.out, fixLoop, if_pos (show authB ⟨q, ⟨s, m⟩⟩ = true from hau), HP.out])
                  have HS10 := Lib.hid (HS7.out.weak (fun k h => h.1))
                  clear HP HD HL HG HS7
                  cases hany : who.any namedB
                  · rw [hany] at HL6
                    go_wp2
                    go_ret2
                    exact ⟨by rw [HL6.out, if_neg (by simp)]; rfl, HB7.out⟩
                  · rw [hany] at HL6
                    have HL7 : Hid (fixLoop who (l.drop (x + 1).toNat) acc2 = fixLoop who l []) := Lib.hid (by rw [HL6.out, if_pos rfl])
                    clear HL6
                    go_wp2
                    go_roundw
                    case measure => simp [intOf]; omega
                    case rel => exact ⟨x + 1, acc2, rfl, by omega, by omega, by omega, HL7, HS10, HB7, by omega⟩
          · have q2 : decide (x < (l.length : Int)) = false := decide_eq_false c2
            have HA : Hid (fixLoop who l [] = some acc) := Lib.hid (by
              rw [← HL.out, List.drop_of_length_le (by omega)]
              rfl)
            obtain ⟨A, c, hp, hR, hc⟩ := HS.out
            have cz := cell_row (k := 0) hp rfl
            have HR := Lib.hid hR
            clear hp hR HS HL
            by_cases h4 : acc.length ≤ 4
            · have q4 : decide ((4 : Int) < (acc.length : Int)) = false := decide_eq_false (by omega)
              go_wp2
              go_ret2
              exact ⟨by rw [HA.out, Option.bind_some, if_pos h4]; exact ⟨_, rfl, Kd.R_mono HR.out fun _ _ => trivial⟩, HB.out⟩
            · have q4 : decide ((4 : Int) < (acc.length : Int)) = true := decide_eq_true (by omega)
              go_wp2
              go_ret2
              exact ⟨by rw [HA.out, Option.bind_some, if_neg h4]; rfl, HB.out⟩
end Go.Proofs.YtgjgafibipepeaaGreatDoor.Q
