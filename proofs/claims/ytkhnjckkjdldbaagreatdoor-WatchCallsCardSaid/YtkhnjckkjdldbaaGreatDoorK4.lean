import Derived.Test.YtkhnjckkjdldbaaGreatDoorKa
namespace Go.Proofs.YtkhnjckkjdldbaaGreatDoor.Q
open Go.RowKit Go.Proofs.YtkhnjckkjdldbaaGreatDoorW.PrintWords Go.Deep Go.Maps Go.WideShapes
open Go.Proofs.YtkhnjckkjdldbaaGreatDoor.Pr (S57 S59 z57 k57 k59)
set_option linter.unusedVariables false
set_option linter.unusedSimpArgs false
attribute [local go_sem] Oper.semAt_some
/-! ADD -/
theorem zeroInt (w : World) : (zeroValue 3).run Tryz.prog w = .ok (.int .i64 0) w := by
  have hz : Tryz.t3.zero = some (.int .i64 0) := by kernel_rfl
  simp [zeroValue, hz]
/-! WHO IS THERE -/
open Classical in
noncomputable def inB (P : WN) (x : S57) : Bool := decide (∃ n, (x, n) ∈ P)
open Classical in
noncomputable def atB (P : WN) (x : S57) : Int := if h : ∃ n, (x, n) ∈ P then h.choose else 0
theorem inB_iff {P : WN} {x : S57} : inB P x = true ↔ ∃ n, (x, n) ∈ P := by unfold inB; simp
theorem nodup_at {P : WN} (h : P.Pairwise (fun p q => p.1 ≠ q.1)) {x : S57} {n m : Int} (h1 : (x, n) ∈ P) (h2 : (x, m) ∈ P) : n = m := by
  induction P with
  | nil => cases h1
  | cons p P ih =>
    rw [List.pairwise_cons] at h
    rcases List.mem_cons.1 h1 with e1 | e1 <;> rcases List.mem_cons.1 h2 with e2 | e2
    · rw [← e2] at e1; exact (Prod.mk.inj e1).2
    · exact absurd (by rw [← e1]) (h.1 _ e2)
    · exact absurd (by rw [← e2]) (h.1 _ e1)
    · exact ih h.2 e1 e2
theorem atB_mem {P : WN} (h : P.Pairwise (fun p q => p.1 ≠ q.1)) {x : S57} {n : Int} (h1 : (x, n) ∈ P) : atB P x = n := by
  unfold atB
  rw [dif_pos ⟨n, h1⟩]
  exact nodup_at h (Exists.choose_spec (⟨n, h1⟩ : ∃ n, (x, n) ∈ P)) h1
theorem Brd.drew {c b : Nat} {came : Int} {P : WN} {w : World} (h : Brd c b came P w) : Brd c b came P w.drew := ⟨h.cells, h.map, h.rise, h.low, h.c0, h.few⟩
theorem brd_look {c b : Nat} {came : Int} {P : WN} {w : World} (h : Brd c b came P w) {x : S57} (hx : wfW x) :
    (Instr.lookup 78 (.map (some b)) (.agg (encW x).toArray) true).run Tryz.prog w = .ok (.tuple #[.int .i64 (atB P x), .bool (inB P x)]) w ∧
    (Instr.lookup 78 (.map (some b)) (.agg (encW x).toArray) false).run Tryz.prog w = .ok (.int .i64 (atB P x)) w := by
  obtain ⟨D, h1, h2⟩ := h.map
  have hz : plainElem (H := Unit) Tryz.prog 3 (.int .i64 0) = some (.lit (.int .i64 0), []) := plainElem_int Tryz.underlying3 (by decide)
  have key : ∀ n, D.atKey (keyL x) (.lit (.int .i64 0)) = .lit (.int .i64 n) → n = atB P x := fun n hn => by
    by_cases he : ∃ m, (x, m) ∈ P
    · obtain ⟨m, hm⟩ := he
      rw [h2.at_ (x, m) hm] at hn
      rw [atB_mem h2.nodup hm]
      cases hn; rfl
    · rw [atKey_of_not_has (h2.no_key hx (fun m hm => he ⟨m, hm⟩))] at hn
      unfold atB
      rw [dif_neg he]
      cases hn; rfl
  have hb : Maps.has D (keyL x) = inB P x := by
    rw [Bool.eq_iff_iff, h2.has_key hx, inB_iff]
  constructor
  · obtain ⟨v, ps, hl, hv⟩ := h1.look_ok watch_keyed Tryz.underlying78 (zeroInt w) hz (keyOf_watch hx)
    obtain ⟨n, rfl, he, _⟩ := plainElem_int_inv Tryz.underlying3 hv
    rw [key n (congrArg Prod.fst he), hb] at hl
    exact hl
  · obtain ⟨v, ps, hl, hv⟩ := h1.lookup watch_keyed Tryz.underlying78 (zeroInt w) hz (keyOf_watch hx)
    obtain ⟨n, rfl, he, _⟩ := plainElem_int_inv Tryz.underlying3 hv
    rw [key n (congrArg Prod.fst he)] at hl
    exact hl
/-- what Add makes of a board -/
noncomputable def addB (P : WN) (came : Int) (x : S57) : Int × WN × Int :=
  if ¬ (kindB x = true ∧ isPathB x.f2 = true) then (1, P, came) else if inB P x = true then (0, P, came) else if 64 ≤ P.length then (180, P, came) else (0, P ++ [(x, came)], came + 1)
theorem turned_onlyK {b : Nat} {w w' : World} (h : w.mapTurned w' b) : Only (fun k => k = b) w w' := by
  have g := h.grown
  exact ⟨g.os, g.tape, g.output, g.size, fun k hk hn => g.block k hk (fun e => hn (Option.some.inj e))⟩
theorem Brd.ne {c b : Nat} {came : Int} {P : WN} {w : World} (h : Brd c b came P w) : c ≠ b := fun e => by
  obtain ⟨D, ⟨es, clock, hb, _⟩, _⟩ := h.map
  rw [← e, h.cells] at hb
  cases hb
theorem Brd.len {c b : Nat} {came : Int} {P : WN} {w : World} (h : Brd c b came P w) (ty : TypeId) : (Builtin.len_ #[78] ty #[.map (some b)]).run Tryz.prog w = .ok (.int .i64 P.length) w := by
  obtain ⟨D, h1, h2⟩ := h.map
  have := h1.len Tryz.underlying78 ty
  rw [h2.size] at this
  exact this
/-- a watch is stored, under the number of those that came -/
theorem Brd.stored {c b : Nat} {came : Int} {P : WN} {w : World} (h : Brd c b came P w) {x : S57} (hx : wfW x) (hn : inB P x = false) (hc : came < 4611686018427387904) (hl : P.length < 64) :
    ∃ w5, (Instr.mapUpdate 78 (.map (some b)) (.agg (encW x).toArray) (.int .i64 came)).run Tryz.prog w = .ok () w5 ∧ Only (fun k => k = b) w w5 ∧ w5.heap[c]? = some (.cells #[.bool true, .map (some b), .int .i64 came] 80 (0, 0)) ∧
      Brd c b (came + 1) (P ++ [(x, came)]) (w5.setCell ⟨c, 2, none⟩ (.int .i64 (came + 1))) := by
  obtain ⟨D, h1, h2⟩ := h.map
  have c0 := h.c0
  have hwf : (Lit.int .i64 came).wf = true := by simp [Lit.wf, IntKind.min, IntKind.max, IntKind.signed, IntKind.bits]; omega
  obtain ⟨w5, hrun, hown, htu⟩ := h1.store watch_keyed Tryz.underlying78 (by unfold maxLen; omega) (keyOf_watch hx) (plainElem_int Tryz.underlying3 hwf)
  have ho := turned_onlyK htu
  have hcell := ho.blk h.cells h.ne
  have hni : ∀ n, (x, n) ∉ P := fun n hm => by rw [inB_iff.2 ⟨n, hm⟩] at hn; cases hn
  refine ⟨w5, hrun, ho, hcell, ?_⟩
  have hm : (came + 1).toNat = came.toNat + 1 := by omega
  refine ⟨heap_setCell_same w5 c 2 _ _ _ hcell, ⟨_, ?_, h2.put hx hni came⟩, ?_, ?_, by omega, by simp; omega⟩
  · rw [hm]
    exact hown.setCell (a := ⟨c, 2, none⟩) (fun e => h.ne e.symm) _
  · rw [List.pairwise_append]
    exact ⟨h.rise, List.pairwise_singleton _ _, fun p hp q hq => by rw [List.mem_singleton.1 hq]; exact (h.low p hp).2⟩
  · intro p hp
    rcases List.mem_append.1 hp with hp | hp
    · have := h.low p hp; omega
    · rw [List.mem_singleton.1 hp]; exact ⟨c0, by show came < came + 1; omega⟩
set_option maxHeartbeats 8000000 in
theorem add_calls {c b : Nat} {came : Int} {P : WN} {w : World} (x : S57) (h : Brd c b came P w) (hx : wfW x) (hs : x.f2.size ≤ 2147483648) (hc : came < 4611686018427387904) (hT : Tabs w) :
    Calls Tryz.prog 17 #[.pointer (some ⟨c, 0, none⟩), .agg (encW x).toArray] w fun e w' => e = .returned (.int .i64 (addB P came x).1) ∧ Brd c b (addB P came x).2.2 (addB P came x).2.1 w' ∧ Only (fun k => k = b ∨ k = c) w w' := by
  obtain ⟨a, k, p⟩ := x
  obtain ⟨W9, hW9⟩ : ∃ V, w.alloc (.cells #[.int .i64 a, .int .i8 k, .string p] 57) = V := ⟨_, rfl⟩
  have hB9 : Below w.heap.size w W9 := by rw [← hW9]; exact below_alloc (Below.refl _ _) _
  have KW := Lib.hid (waits_calls ⟨a, k, p⟩ W9)
  have HB9 := Lib.hid hB9
  have HBR := Lib.hid h
  have HX := Lib.hid hx
  have HT := Lib.hid hT
  have hz : W9.heap[w.heap.size]? = some (.cells #[.int .i64 a, .int .i8 k, .string p] 57 (0, 0)) := by rw [← hW9]; exact World.alloc_heap_new w _
  have HZ := Lib.hid hz
  have x0 := cell_rowK (k := 0) (v := .int .i64 a) hz rfl
  have x1 := cell_rowK (k := 1) (v := .int .i8 k) hz rfl
  have x2 := cell_rowK (k := 2) (v := .string p) hz rfl
  rw [← hW9] at x0 x1 x2
  have HW := Lib.hid hW9
  obtain ⟨kb, hkb⟩ : ∃ v, kindB ⟨a, k, p⟩ = v := ⟨_, rfl⟩
  rw [hkb] at KW
  have HKB := Lib.hid hkb
  clear hB9 hW9 hz h hx hT hkb
  go_enter Tryz.func17, Tryz.ntmps17
  go_wp2_with fail
  rw [HW.out]
  refine KW.out.mono ?_
  rintro e w1 ⟨rfl, hB⟩
  have HB1 := Lib.hid (below_step HB9.out hB)
  have HZ1 := Lib.hid (blkK HZ.out hB)
  have KN := Lib.hid (none_brd (HBR.out.below HB1.out))
  clear hB KW x0 x1 x2
  go_wp2_with fail
  refine KN.out.mono ?_
  rintro e w2 ⟨rfl, rfl⟩
  clear KN
  cases kb with
  | false =>
    have HA : Hid (addB P came ⟨a, k, p⟩ = (1, P, came)) := Lib.hid (by unfold addB; rw [if_pos (fun e => by rw [HKB.out] at e; cases e.1)])
    go_wp2
    go_ret
    rw [HA.out]
    exact ⟨rfl, HBR.out.below HB1.out, Only.of_below HB1.out⟩
  | true =>
  have x2 := cell_rowK (k := 2) (v := .string p) HZ1.out rfl
  have KP := isPath_calls p w2 hs (tabs_from HT.out HB1.out)
  obtain ⟨pb, hpb⟩ : ∃ v, isPathB p = v := ⟨_, rfl⟩
  rw [hpb] at KP
  have KP := Lib.hid KP
  have HPB := Lib.hid hpb
  clear hpb
  go_wp2_with fail
  refine KP.out.mono ?_
  rintro e w3 ⟨rfl, hB⟩
  have HB3 := Lib.hid (below_step HB1.out hB)
  have HZ3 := Lib.hid (blkK HZ1.out hB)
  clear hB KP x2 HB1 HZ1
  cases pb with
  | false =>
    have HA : Hid (addB P came ⟨a, k, p⟩ = (1, P, came)) := Lib.hid (by unfold addB; rw [if_pos (fun e => by have := e.2; rw [HPB.out] at this; cases this)])
    go_wp2
    go_ret
    rw [HA.out]
    exact ⟨rfl, HBR.out.below HB3.out, Only.of_below HB3.out⟩
  | true =>
  have y0 := cell_rowK (k := 0) (v := .int .i64 a) HZ3.out rfl
  have y1 := cell_rowK (k := 1) (v := .int .i8 k) HZ3.out rfl
  have y2 := cell_rowK (k := 2) (v := .string p) HZ3.out rfl
  have HBR3 := Lib.hid (HBR.out.below HB3.out)
  have z1 := cell_rowK (k := 1) (v := .map (some b)) HBR3.out.cells rfl
  have z2 := cell_rowK (k := 2) (v := .int .i64 came) HBR3.out.cells rfl
  have l1 : ∀ d os, (Instr.lookup 78 (.map (some b)) (.agg (encW ⟨a, k, p⟩).toArray) true).run Tryz.prog (Go.Sort.grow (redrawn w3 d) os) = .ok (.tuple #[.int .i64 (atB P ⟨a, k, p⟩), .bool (inB P ⟨a, k, p⟩)]) (Go.Sort.grow (redrawn w3 d) os) := fun d os => (brd_look (HBR3.out.below (below_regrown w3 d os)) HX.out).1
  obtain ⟨nn, hnn⟩ : ∃ v, atB P ⟨a, k, p⟩ = v := ⟨_, rfl⟩
  obtain ⟨ib, hib⟩ : ∃ v, inB P ⟨a, k, p⟩ = v := ⟨_, rfl⟩
  rw [hnn, hib] at l1
  have g0 := cell_regrown y0
  have g1 := cell_regrown y1
  have g2 := cell_regrown y2
  have g3 := cell_regrown z1
  have HIB := Lib.hid hib
  have HKP : Hid (kindB ⟨a, k, p⟩ = true ∧ isPathB p = true) := Lib.hid ⟨HKB.out, HPB.out⟩
  clear hnn hib
  go_wp2_with fail
  refine wp_region_quiet_below (by kernel_rfl) (by kernel_rfl) ?_
  repeat (go_big_quiet_step (fail))
  refine wpQuiet_nil ?_
  intro _ hw'
  obtain ⟨⟨dq, osq⟩, hw''⟩ := hw'
  subst hw''
  have HB4 := Lib.hid (below_step HB3.out (below_regrown w3 dq osq))
  have HZ4 := Lib.hid (blkK HZ3.out (below_regrown w3 dq osq))
  obtain ⟨W4, hW4⟩ : ∃ V, Go.Sort.grow (redrawn w3 dq) osq = V := ⟨_, rfl⟩
  rw [hW4] at HB4 HZ4
  simp only [hW4]
  clear y0 y1 y2 z1 z2 l1 g0 g1 g2 g3 hW4 HB3 HZ3 HBR3
  have HBR4 := Lib.hid (HBR.out.below HB4.out)
  cases ib with
  | true =>
    have HA : Hid (addB P came ⟨a, k, p⟩ = (0, P, came)) := Lib.hid (by unfold addB; rw [if_neg (fun e => e HKP.out), if_pos HIB.out])
    go_wp2
    go_ret
    rw [HA.out]
    exact ⟨rfl, HBR4.out, Only.of_below HB4.out⟩
  | false =>
  have z1 := cell_rowK (k := 1) (v := .map (some b)) HBR4.out.cells rfl
  have hlen := HBR4.out.len 3
  by_cases hfull : 64 ≤ P.length
  · have HA : Hid (addB P came ⟨a, k, p⟩ = (180, P, came)) := Lib.hid (by unfold addB; rw [if_neg (fun e => e HKP.out), if_neg (fun e => by rw [HIB.out] at e; cases e), if_pos hfull])
    have q4 : decide ((64 : Int) ≤ (P.length : Int)) = true := decide_eq_true (by omega)
    go_wp2
    go_ret
    rw [HA.out]
    exact ⟨rfl, HBR4.out, Only.of_below HB4.out⟩
  · have HA : Hid (addB P came ⟨a, k, p⟩ = (0, P ++ [(⟨a, k, p⟩, came)], came + 1)) := Lib.hid (by unfold addB; rw [if_neg (fun e => e HKP.out), if_neg (fun e => by rw [HIB.out] at e; cases e), if_neg hfull])
    have q4 : decide ((64 : Int) ≤ (P.length : Int)) = false := decide_eq_false (by omega)
    have y0 : W4.drew.cell? ⟨w.heap.size, 0, none⟩ = some (.int .i64 a) := cell_rowK (k := 0) HZ4.out rfl
    have y1 : W4.drew.cell? ⟨w.heap.size, 1, none⟩ = some (.int .i8 k) := cell_rowK (k := 1) HZ4.out rfl
    have y2 : W4.drew.cell? ⟨w.heap.size, 2, none⟩ = some (.string p) := cell_rowK (k := 2) HZ4.out rfl
    have d1 : W4.drew.cell? ⟨c, 1, none⟩ = some (.map (some b)) := z1
    have d2 : W4.drew.cell? ⟨c, 2, none⟩ = some (.int .i64 came) := cell_rowK (k := 2) HBR4.out.cells rfl
    obtain ⟨w5, hrun, ho5, hc5, hbr5⟩ := HBR4.out.drew.stored HX.out HIB.out hc (by omega)
    have HO5 := Lib.hid ho5
    have HBR5 := Lib.hid hbr5
    have e2 : w5.cell? ⟨c, 2, none⟩ = some (.int .i64 came) := cell_rowK (k := 2) hc5 rfl
    have f2 : w5.frozen? ⟨c, 2, none⟩ = false := frozen_of_row w5 c 2 _ _ hc5
    have HC0 := Lib.hid HBR4.out.c0
    clear ho5 hbr5 hc5
    go_wp2_with fail
    go_region_with (fail)
    all_goals (
      go_wp2
      go_ret
      rw [HA.out, w64 (x := came + 1) (by have := HC0.out; omega) (by omega)]
      refine ⟨rfl, HBR5.out, ?_⟩
      exact ((Only.of_below (below_drew HB4.out)).trans (HO5.out.mono (fun _ _ h => .inl h)) (fun _ _ h => h)).setCell (p := ⟨c, 2, none⟩) (.inl (.inr rfl)) _)
end Go.Proofs.YtkhnjckkjdldbaaGreatDoor.Q
