import Derived.Test.YtkhnjckkjdldbaaGreatDoorK6
namespace Go.Proofs.YtkhnjckkjdldbaaGreatDoor.Q
open Go.RowKit Go.Proofs.YtkhnjckkjdldbaaGreatDoorW.PrintWords Go.Deep Go.Maps Go.WideShapes
open Go.Proofs.YtkhnjckkjdldbaaGreatDoor.Pr (S57 S59 z57 k57 k59)
set_option linter.unusedVariables false
set_option linter.unusedSimpArgs false
attribute [local go_sem] Oper.semAt_some
/-! NO BOARD -/
def NoneB (x : Option Addr) (w : World) : Prop := ∀ W, Below w.heap.size w W → Calls Tryz.prog 26 #[.pointer x] W fun e w' => e = .returned (.bool true) ∧ w' = W
theorem NoneB.below {x : Option Addr} {w w' : World} (h : NoneB x w) (hB : Below w.heap.size w w') : NoneB x w' := fun W hb => h W (below_step hB hb)
/-! A WATCH FOR A NODE ITSELF -/
theorem itself_calls (k : Int) (p : ByteArray) (w : World) : Calls Tryz.prog 155 #[.agg #[.int .i8 k, .string p]] w fun e w' => e = .returned (.bool (k != 4)) ∧ Below w.heap.size w w' := by
  have HB := Lib.hid (below_alloc (Below.refl w.heap.size w) (.cells #[.int .i8 k, .string p] 59))
  go_enter Tryz.func155, Tryz.ntmps155
  go_wp2
  go_ret
  exact ⟨rfl, HB.out⟩
theorem metData_same (k : Int) (p : ByteArray) (w : World) : Calls Tryz.prog 154 #[.agg #[.string p], .agg #[.int .i8 k, .string p]] w fun e w' => e = .returned (.bool (k != 4)) ∧ Below w.heap.size w w' := by
  obtain ⟨W1, hW1⟩ : ∃ V, (w.alloc (.cells #[.string p] 197)).alloc (.cells #[.int .i8 k, .string p] 59) = V := ⟨_, rfl⟩
  have hB1 : Below w.heap.size w W1 := by rw [← hW1]; exact below_alloc (below_alloc (Below.refl _ _) _) _
  have K := Lib.hid (itself_calls k p W1)
  have hq : (p.toList == p.toList) = true := by simp
  have HB := Lib.hid hB1
  have HW := Lib.hid hW1
  clear hB1 hW1
  go_enter Tryz.func154, Tryz.ntmps154
  go_wp2_with fail
  rw [HW.out]
  refine K.out.mono ?_
  rintro e w1 ⟨rfl, hB⟩
  have HB2 := Lib.hid (below_step HB.out hB)
  clear hB K hq
  go_wp2
  go_ret
  exact ⟨rfl, HB2.out⟩
theorem assert_yes {t x : TypeId} {fs : Array Field} (ht : Tryz.prog.underlying t = some (.struct fs)) (v : Value) (W : World) : (Instr.typeAssert (.iface t v) x t true).run Tryz.prog W = .ok (.tuple #[v, .bool true]) W := by
  unfold Instr.typeAssert
  rw [Sem.run_bind, run_underlying ht W]
  simp
theorem assert_no {t t' x : TypeId} {fs : Array Field} (ht : Tryz.prog.underlying t = some (.struct fs)) (hne : t' ≠ t) (v z : Value) (W : World) (hz : (zeroValue t).run Tryz.prog W = .ok z W) : (Instr.typeAssert (.iface t' v) x t true).run Tryz.prog W = .ok (.tuple #[z, .bool false]) W := by
  unfold Instr.typeAssert
  rw [Sem.run_bind, run_underlying ht W]
  simp [hne, Sem.run_bind, hz]
theorem zeroW1 (w : World) : (zeroValue 198).run Tryz.prog w = .ok (.agg #[.string ⟨#[]⟩]) w := by
  have hz : Tryz.t198.zero = some (.agg #[.string ⟨#[]⟩]) := by kernel_rfl
  simp [zeroValue, hz]
set_option maxRecDepth 100000 in
theorem once_data (p : ByteArray) (w : World) : Calls Tryz.prog 52 #[.iface 197 (.agg #[.string p])] w fun e w' => e = .returned (.bool true) ∧ w' = w := by
  have a1 := fun W => assert_yes (x := 109) Tryz.underlying197 (.agg #[.string p]) W
  have a2 := fun W => assert_no (x := 109) (t' := 197) Tryz.underlying198 (by decide) (.agg #[.string p]) _ W (zeroW1 W)
  go_enter Tryz.func52, Tryz.ntmps52
  go_wp2
  go_ret
  exact ⟨rfl, rfl⟩
end Go.Proofs.YtkhnjckkjdldbaaGreatDoor.Q
namespace Go.Proofs.YtkhnjckkjdldbaaGreatDoor.Q
open Go.RowKit Go.Proofs.YtkhnjckkjdldbaaGreatDoorW.PrintWords Go.Deep Go.Maps Go.WideShapes
open Go.Proofs.YtkhnjckkjdldbaaGreatDoor.Pr (S57 S59 z57 k57 k59)
open Go.Proofs.YtkhnjckkjdldbaaGreatDoor.Bag (AppTo wpList_app own_lower)
set_option linter.unusedVariables false
set_option linter.unusedSimpArgs false
attribute [local go_sem] Oper.semAt_some
/-! ONE WATCH, FOR A NODE'S DATA, IS MET -/
theorem Brd.dropped {c b : Nat} {came : Int} {P : WN} {w : World} (h : Brd c b came P w) {x : S57} {n : Int} (hx : (x, n) ∈ P) (keep : S57 × Int → Bool) (hk : ∀ p ∈ P, keep p = true ↔ p.1 ≠ x) (ty : TypeId) :
    ∃ w5, (Builtin.delete_ #[78, 57] ty #[.map (some b), .agg (encW x).toArray]).run Tryz.prog w = .ok (.tuple #[]) w5 ∧ Only (fun k => k = b) w w5 ∧ Brd c b came (P.filter keep) w5 := by
  obtain ⟨D, h1, h2⟩ := h.map
  obtain ⟨w5, hrun, hown, htu⟩ := h1.drop watch_keyed Tryz.underlying78 (keyOf_watch (h2.wf _ hx)) ty
  have ho := turned_onlyK htu
  exact ⟨w5, hrun, ho, ⟨ho.blk h.cells h.ne, ⟨_, hown, h2.del hx keep hk⟩, h.rise.filter _, fun p hp => h.low p (List.mem_filter.1 hp).1, h.c0, Nat.le_trans (List.length_filter_le _ _) h.few⟩⟩
theorem infoF : (Tryz.prog.info? 77).map (fun i => (i.zero, i.size, i.bytes)) = some (some (.agg #[.int .i64 0, .int .i8 0, .string ⟨#[]⟩, .int .i8 0, .string ⟨#[]⟩]), 5, 56) := by kernel_rfl
set_option maxRecDepth 100000 in
set_option maxHeartbeats 8000000 in
theorem fire_one {c b : Nat} {came n0 a k : Int} {p : ByteArray} {w : World} (h : Brd c b came [(⟨a, 1, p⟩, n0)] w) (hk1 : 1 ≤ k) (hk3 : k ≤ 3) (hp : isPathB p = true) (hs : p.size ≤ 2147483648) (hc : came < 4611686018427387904) (hT : Tabs w) :
    Calls Tryz.prog 18 #[.pointer (some ⟨c, 0, none⟩), .agg #[.int .i8 k, .string p]] w fun e w' => ∃ g cap, e = .returned (.slice (some ⟨g, 0, none⟩) 1 cap) ∧ w'.cell? ⟨g, 0, none⟩ = some (.int .i64 a) ∧ w'.cell? ⟨g, 1, none⟩ = some (.int .i8 1) ∧ w'.cell? ⟨g, 2, none⟩ = some (.string p) ∧ Only (fun k => k = b) w w' := by
  obtain ⟨W1, hW1⟩ : ∃ V, w.alloc (.cells #[.int .i8 k, .string p] 59) = V := ⟨_, rfl⟩
  have hB1 : Below w.heap.size w W1 := by rw [← hW1]; exact below_alloc (Below.refl _ _) _
  have hz : W1.heap[w.heap.size]? = some (.cells #[.int .i8 k, .string p] 59 (0, 0)) := by rw [← hW1]; exact World.alloc_heap_new w _
  have x0 := cell_rowK (k := 0) (v := .int .i8 k) hz rfl
  have x1 := cell_rowK (k := 1) (v := .string p) hz rfl
  have HZ := Lib.hid hz
  have hbr := h.below hB1
  have K1 := Lib.hid (none_brd hbr)
  have KP := isPath_calls p W1 hs (tabs_from hT hB1)
  rw [hp] at KP
  have KP := Lib.hid KP
  have HBR := Lib.hid hbr
  have HB1 := Lib.hid hB1
  have HW := Lib.hid hW1
  have HT := Lib.hid hT
  have q1 : decide (k < 1) = false := decide_eq_false (by omega)
  have q2 : decide (4 < k) = false := decide_eq_false (by omega)
  rw [← hW1] at x0 x1
  clear h hB1 hz hbr hW1 hT
  go_enter Tryz.func18, Tryz.ntmps18
  go_wp2_with fail
  go_step3
  go_wp2_with fail
  rw [HW.out] at x0 x1 ⊢
  refine K1.out.mono ?_
  rintro e w1 ⟨rfl, rfl⟩
  clear K1
  go_wp2_with fail
  refine KP.out.mono ?_
  rintro e w2 ⟨rfl, hB⟩
  have HB2 := Lib.hid (below_step HB1.out hB)
  have HBR2 := Lib.hid (HBR.out.below hB)
  have HZ2 := Lib.hid (blkK HZ.out hB)
  have KA := Lib.hid (all_calls HBR2.out hc)
  clear hB KP x0 x1 q1 q2
  go_wp2_with fail
  refine wp_label ?_
  go_wp2_with fail
  refine KA.out.mono ?_
  rintro e w3 ⟨v, rfl, hown, hB⟩
  have HB3 := Lib.hid (below_step HB2.out hB)
  have HBR3 := Lib.hid (HBR2.out.below hB)
  have HZ3 := Lib.hid (blkK HZ2.out hB)
  rcases hown.2 with ⟨_, h0⟩ | ⟨g, cap, cur, hv, hgb, hgc, hcap, hcm, hsz, htk⟩
  · simp at h0
  have hv' : v = .slice (some ⟨g, 0, none⟩) 1 cap := hv
  subst hv'
  have hcap' : 1 ≤ cap := hcap
  have c0 : w3.cell? ⟨g, 0, none⟩ = some (.int .i64 a) := World.ownsRow.cellAt hown 0 (by simp)
  have c1 : w3.cell? ⟨g, 1, none⟩ = some (.int .i8 1) := World.ownsRow.cellAt hown 1 (by simp)
  have c2 : w3.cell? ⟨g, 2, none⟩ = some (.string p) := World.ownsRow.cellAt hown 2 (by simp)
  obtain ⟨W4, hW4⟩ : ∃ V, w3.alloc (.cells #[.int .i64 a, .int .i8 1, .string p] 57) = V := ⟨_, rfl⟩
  have hB4 : Below w3.heap.size w3 W4 := by rw [← hW4]; exact below_alloc (Below.refl _ _) _
  have hz4 : W4.heap[w3.heap.size]? = some (.cells #[.int .i64 a, .int .i8 1, .string p] 57 (0, 0)) := by rw [← hW4]; exact World.alloc_heap_new w3 _
  have HZ4 := Lib.hid (And.intro hz4 (blkK HZ3.out hB4))
  have HB4 := Lib.hid (below_step HB3.out hB4)
  have HBR4 := Lib.hid (HBR3.out.below hB4)
  have KW := Lib.hid (waits_calls ⟨a, 1, p⟩ W4)
  have HW4 := Lib.hid hW4
  have d0 : W4.cell? ⟨w3.heap.size, 0, none⟩ = some (.int .i64 a) := cell_rowK (k := 0) hz4 rfl
  have d1 : W4.cell? ⟨w3.heap.size, 1, none⟩ = some (.int .i8 1) := cell_rowK (k := 1) hz4 rfl
  have d2 : W4.cell? ⟨w3.heap.size, 2, none⟩ = some (.string p) := cell_rowK (k := 2) hz4 rfl
  rw [← hW4] at d0 d1 d2
  clear hown hB hv hgb hgc hcap hcm hsz htk hB4 hz4 hW4 KA
  go_wp2_with fail
  refine wp_loop_rounds 2 ?_
  rw [rounds_succ]
  go_wp2_with fail
  rw [HW4.out]
  refine KW.out.mono ?_
  rintro e w5 ⟨rfl, hB⟩
  have HB5 := Lib.hid (below_step HB4.out hB)
  have HBR5 := Lib.hid (HBR4.out.below hB)
  have HZ5 := Lib.hid (And.intro (blkK HZ4.out.1 hB) (blkK HZ4.out.2 hB))
  have hwv : waitV ⟨a, 1, p⟩ = .iface 197 (.agg #[.string p]) := rfl
  have hkb : kindB ⟨a, 1, p⟩ = true := rfl
  rw [hwv, hkb]
  have e0 : w5.cell? ⟨w.heap.size, 0, none⟩ = some (.int .i8 k) := cell_rowK (k := 0) HZ5.out.2 rfl
  have e1 : w5.cell? ⟨w.heap.size, 1, none⟩ = some (.string p) := cell_rowK (k := 1) HZ5.out.2 rfl
  have KM := metData_same k p w5
  rw [show (k != 4) = true by rw [bne_iff_ne]; omega] at KM
  have KM := Lib.hid KM
  clear hB d0 d1 d2 c0 c1 c2 KW hwv hkb
  go_wp2_with fail
  refine KM.out.mono ?_
  rintro e w6 ⟨rfl, hB⟩
  have HB6 := Lib.hid (below_step HB5.out hB)
  have HBR6 := Lib.hid (HBR5.out.below hB)
  have hz6 := blkK HZ5.out.1 hB
  have hy6 := blkK HZ5.out.2 hB
  have HZ6 := Lib.hid (And.intro hz6 hy6)
  have f0 : w6.cell? ⟨w3.heap.size, 0, none⟩ = some (.int .i64 a) := cell_rowK (k := 0) hz6 rfl
  have f1 : w6.cell? ⟨w3.heap.size, 1, none⟩ = some (.int .i8 1) := cell_rowK (k := 1) hz6 rfl
  have f2 : w6.cell? ⟨w3.heap.size, 2, none⟩ = some (.string p) := cell_rowK (k := 2) hz6 rfl
  have g0 : w6.cell? ⟨w.heap.size, 0, none⟩ = some (.int .i8 k) := cell_rowK (k := 0) hy6 rfl
  have g1 : w6.cell? ⟨w.heap.size, 1, none⟩ = some (.string p) := cell_rowK (k := 1) hy6 rfl
  have HNW := Lib.hid (World.news_of_block (World.alloc_heap_new w6 (.cells #[.int .i64 a, .int .i8 1, .string p, .int .i8 k, .string p] 77)))
  obtain ⟨iF, hi, hz0, hz1, hz2⟩ := info_parts infoF
  have HI := Lib.hid (And.intro hi (And.intro hz0 (And.intro hz1 hz2)))
  clear hB hz6 hy6 e0 e1 KM hi hz0 hz1 hz2
  go_wp2_with (first | (at_builtin; refine wpList_app rfl (.tmp 44) (.tmp 48) 63 rfl 77 iF _ 5 56 Tryz.underlying63 HI.out.1 HI.out.2.1 HI.out.2.2.1 HI.out.2.2.2 rfl (by decide) w6.heap.size (.slice none 0 0) 0 [] rfl (World.ownsRow_nil _ _ _ _) ⟨w6.heap.size, 0, none⟩ 1 [.int .i64 a, .int .i8 1, .string p, .int .i8 k, .string p] rfl rfl HNW.out (by simp [Value.oneCell']) (by unfold maxLen; omega) (by omega) (by simp) ?_; intro g7 cap7 w7 hown7 hA7; have H7 := Lib.hid (And.intro hown7 hA7); clear hown7 hA7 f0 f1 f2 g0 g1))
  obtain ⟨hgr7, hg7⟩ : (w6.alloc (.cells #[.int .i64 a, .int .i8 1, .string p, .int .i8 k, .string p] 77)).grownBy w7 none ∧ w6.heap.size < g7 := by
    rcases H7.out.2 with ⟨h1, _⟩ | ⟨h1, h2⟩
    · cases h1
    · exact ⟨h2, by rw [World.size_alloc] at h1; omega⟩
  have hB67 : Below w6.heap.size w6 w7 := by
    have hA := below_alloc (Below.refl w6.heap.size w6) (.cells #[.int .i64 a, .int .i8 1, .string p, .int .i8 k, .string p] 77)
    exact ⟨hgr7.os.trans hA.os, hgr7.tape.trans hA.tape, hgr7.output.trans hA.output, Nat.le_trans hA.size hgr7.size, fun i hi => (hgr7.block i (Nat.lt_of_lt_of_le hi hA.size) (by simp)).trans (hA.block i hi)⟩
  have HB7 := Lib.hid (below_step HB6.out hB67)
  have HBR7 := Lib.hid (HBR6.out.below hB67)
  have hz7 := blkK HZ6.out.1 hB67
  have r0 : w7.cell? ⟨g7, 0, none⟩ = some (.int .i64 a) := World.ownsRow.cellAt H7.out.1 0 (by simp)
  have r1 : w7.cell? ⟨g7, 1, none⟩ = some (.int .i8 1) := World.ownsRow.cellAt H7.out.1 1 (by simp)
  have r2 : w7.cell? ⟨g7, 2, none⟩ = some (.string p) := World.ownsRow.cellAt H7.out.1 2 (by simp)
  have hbg : g7 ≠ b := fun e => by
    obtain ⟨D, h1, _⟩ := HBR6.out.map
    have := h1.lt
    omega
  obtain ⟨w8, hrun, ho8, _⟩ := HBR7.out.drew.dropped (x := ⟨a, 1, p⟩) (n := n0) (by simp) (fun _ => false) (fun q hq => by rw [List.mem_singleton.1 hq]; simp) 0
  have HR := Lib.hid (And.intro (ho8.cell (p := ⟨g7, 0, none⟩) r0 hbg) (And.intro (ho8.cell (p := ⟨g7, 1, none⟩) r1 hbg) (And.intro (ho8.cell (p := ⟨g7, 2, none⟩) r2 hbg) ((Only.of_below (S := fun k => k = b) (below_drew HB7.out)).trans ho8 (fun _ _ h => h)))))
  have y0 : w7.drew.cell? ⟨w3.heap.size, 0, none⟩ = some (.int .i64 a) := cell_rowK (k := 0) hz7 rfl
  have y1 : w7.drew.cell? ⟨w3.heap.size, 1, none⟩ = some (.int .i8 1) := cell_rowK (k := 1) hz7 rfl
  have y2 : w7.drew.cell? ⟨w3.heap.size, 2, none⟩ = some (.string p) := cell_rowK (k := 2) hz7 rfl
  have y3 : w7.drew.cell? ⟨c, 1, none⟩ = some (.map (some b)) := cell_rowK (k := 1) HBR7.out.cells rfl
  clear hgr7 hg7 hB67 hz7 r0 r1 r2 hbg ho8
  refine (once_data p w7).mono ?_
  rintro e w9 ⟨rfl, rfl⟩
  go_wp2_with fail
  go_region_with (fail)
  all_goals (
    clear y0 y1 y2 y3
    go_wp2_with fail
    rw [rounds_succ]
    go_wp2
    rw [Exit.noGoto_ret]
    go_ret
    exact ⟨g7, cap7, rfl, HR.out.1, HR.out.2.1, HR.out.2.2.1, HR.out.2.2.2⟩)
end Go.Proofs.YtkhnjckkjdldbaaGreatDoor.Q
namespace Go.Proofs.YtkhnjckkjdldbaaGreatDoor.Q
open Go.RowKit Go.Proofs.YtkhnjckkjdldbaaGreatDoorW.PrintWords Go.Deep Go.Maps Go.WideShapes
open Go.Proofs.YtkhnjckkjdldbaaGreatDoor.Pr (S57 S59 z57 k57 k59)
set_option linter.unusedVariables false
set_option linter.unusedSimpArgs false
attribute [local go_sem] Oper.semAt_some
/-! A WATCH IS LEFT, AND FIRES -/
theorem dec_a : Utf8.decode ⟨#[97]⟩ 0 = (97, 1) := by kernel_rfl
theorem name_a : nameOk ⟨#[97]⟩ = true := by
  rw [nameOk_iff]
  refine ⟨?_, ?_, by decide⟩
  · unfold special
    rw [Lib.toList_data]
    decide
  · have hw : wd ⟨#[97]⟩ 0 = 1 := congrArg Prod.snd dec_a
    rw [bad_no (by decide) (by unfold okAt; rw [dec_a]; rfl), hw, bad_out (by decide)]
theorem seg_a : segs ⟨#[47, 97]⟩ 1 = [⟨#[97]⟩] := by
  have h1 : ∀ j, 1 ≤ j → j < 2 → ((⟨#[47, 97]⟩ : ByteArray).get! j).toNat ≠ 47 := fun j a b => by
    have e : j = 1 := by omega
    subst e
    decide
  have he : endAt ⟨#[47, 97]⟩ 1 = 2 := endAt_is (by omega) (by decide) h1 (fun h => absurd h (by decide))
  rw [segs_in (by decide), he, segs_out (by decide)]
  rfl
theorem path_a : isPathB ⟨#[47, 97]⟩ = true := by
  have h : checkP ⟨#[47, 97]⟩ = (0, 0) := by
    rw [checkP_none (by decide) (by rw [Lib.toList_data]; decide) ((ff_none _ 1).2 (by rw [seg_a]; simp [name_a]))]
    rfl
  unfold isPathB
  rw [h]; rfl
theorem add_a : addB [] 0 ⟨4, 1, ⟨#[47, 97]⟩⟩ = (0, [(⟨4, 1, ⟨#[47, 97]⟩⟩, 0)], 1) := by
  unfold addB
  rw [if_neg (fun h => h ⟨rfl, path_a⟩), if_neg (fun h => by obtain ⟨n, hn⟩ := inB_iff.1 h; cases hn), if_neg (by decide)]
  rfl
set_option maxRecDepth 100000 in
set_option maxHeartbeats 8000000 in
theorem lives_calls (w : World) (hT : Tabs w) : Calls Tryz.prog 5 #[] w fun e w' => e = .returned (.bool true) ∧ Below w.heap.size w w' := by
  have KN := Lib.hid (newB_calls w)
  have HT := Lib.hid hT
  clear hT
  go_enter Tryz.func5, Tryz.ntmps5
  go_wp2_with fail
  refine KN.out.mono ?_
  rintro e w1 ⟨c, b, rfl, hbr, hB, hbw, hcw⟩
  obtain ⟨W2, hW2⟩ : ∃ V, w1.alloc (.cells #[.int .i64 4, .int .i8 1, .string ⟨#[47, 97]⟩] 57) = V := ⟨_, rfl⟩
  have hB2 : Below w1.heap.size w1 W2 := by rw [← hW2]; exact below_alloc (Below.refl _ _) _
  have hz : W2.heap[w1.heap.size]? = some (.cells #[.int .i64 4, .int .i8 1, .string ⟨#[47, 97]⟩] 57 (0, 0)) := by rw [← hW2]; exact World.alloc_heap_new w1 _
  have x0 := cell_rowK (k := 0) (v := .int .i64 4) hz rfl
  have x1 := cell_rowK (k := 1) (v := .int .i8 1) hz rfl
  have x2 := cell_rowK (k := 2) (v := .string ⟨#[47, 97]⟩) hz rfl
  have HB2 := Lib.hid (below_step hB hB2)
  have KA := add_calls ⟨4, 1, ⟨#[47, 97]⟩⟩ (hbr.below hB2) (by refine ⟨by decide, by decide, ?_⟩; show 2 ≤ maxLen; unfold maxLen; omega) (by decide) (by omega) (tabs_from HT.out HB2.out)
  rw [add_a] at KA
  have KA := Lib.hid KA
  have hne : w1.heap.size ≠ b ∧ w1.heap.size ≠ c := by
    have h1 := (Array.getElem?_eq_some_iff.1 hbr.cells).1
    obtain ⟨D, h2, _⟩ := hbr.map
    have := h2.lt
    omega
  have HZ := Lib.hid (And.intro hz hne)
  have HBC := Lib.hid (And.intro hbw hcw)
  have HW := Lib.hid hW2
  rw [← hW2] at x0 x1 x2
  clear KN hbr hB hB2 hz hW2 hne hbw hcw
  go_wp2_with fail
  rw [HW.out]
  refine KA.out.mono ?_
  rintro e w3 ⟨rfl, hbr3, ho3⟩
  have HB3 := Lib.hid (ho3.from HB2.out (fun k hk => by have := HBC.out; rcases hk with rfl | rfl <;> omega))
  have hz3 := ho3.blk HZ.out.1 (fun h => by rcases h with h | h; exact HZ.out.2.1 h; exact HZ.out.2.2 h)
  have KF := Lib.hid (fire_one (k := 3) hbr3 (by omega) (by omega) path_a (by decide) (by omega) (tabs_from HT.out HB3.out))
  have HZ3 := Lib.hid hz3
  clear KA hbr3 ho3 hz3 x0 x1 x2
  go_wp2_with fail
  refine KF.out.mono ?_
  rintro e w4 ⟨g, cap, rfl, y0, y1, y2, ho4⟩
  have HB4 := Lib.hid (ho4.from HB3.out (fun k hk => by have := HBC.out; omega))
  have hz4 := ho4.blk HZ3.out HZ.out.2.1
  have z0 := cell_regrown (cell_rowK (k := 0) (v := .int .i64 4) hz4 rfl)
  have z1 := cell_regrown (cell_rowK (k := 1) (v := .int .i8 1) hz4 rfl)
  have z2 := cell_regrown (cell_rowK (k := 2) (v := .string ⟨#[47, 97]⟩) hz4 rfl)
  have v0 := cell_regrown y0
  have v1 := cell_regrown y1
  have v2 := cell_regrown y2
  clear KF ho4 hz4 y0 y1 y2
  go_wp2_with fail
  refine wp_region_quiet_below (by kernel_rfl) (by kernel_rfl) ?_
  repeat (go_big_quiet_step (fail))
  refine wpQuiet_nil ?_
  intro _ hw'
  obtain ⟨⟨dq, osq⟩, hw''⟩ := hw'
  subst hw''
  have HB5 := Lib.hid (below_step HB4.out (below_regrown w4 dq osq))
  clear z0 z1 z2 v0 v1 v2
  go_wp2
  go_ret
  exact ⟨rfl, HB5.out⟩
/-! NIL AND PLAIN BOARDS -/
end Go.Proofs.YtkhnjckkjdldbaaGreatDoor.Q
