import Derived.Test.YtgjgafibipepeaaGreatDoorQa
namespace Go.Proofs.YtgjgafibipepeaaGreatDoor.Q
open Go.RowKit Go.Proofs.YtgjgafibipepeaaGreatDoorW.PrintWords Go.Deep Go.Maps Go.WideShapes Go.Lib
set_option linter.unusedVariables false
set_option linter.unusedSimpArgs false
attribute [local go_sem] Oper.semAt_some

/-! A RANGE -/
def quadI (a b c d : Int) : Value := .agg #[.int .u8 a, .int .u8 b, .int .u8 c, .int .u8 d]
theorem opt_I (x : Option Quad) : ∃ a b c d : Int, (x.map quadV).getD noQuad = .agg #[.int .u8 a, .int .u8 b, .int .u8 c, .int .u8 d] := by
  cases x with
  | none => exact ⟨0, 0, 0, 0, rfl⟩
  | some q => exact ⟨_, _, _, _, rfl⟩
theorem isAddress_calls (s : ByteArray) (w : World) (hs : s.size ≤ 536870912) (hE : Env w) :
    Calls Tryz.prog 100 #[.string s] w fun e w' => e = .returned (.bool (addrB s.data.toList).isSome) ∧ Below w.heap.size w w' := by
  have K1 := Lib.hid (address_calls s w hs hE)
  obtain ⟨a, b, c, d, hv⟩ := opt_I (addrB s.data.toList)
  obtain ⟨r, hr⟩ : ∃ r, (addrB s.data.toList).isSome = r := ⟨_, rfl⟩
  rw [hv, hr] at K1
  rw [hr]
  clear hE hv hr
  go_enter Tryz.func100, Tryz.ntmps100
  go_wp2_with fail
  refine K1.out.mono ?_
  rintro e w1 ⟨rfl, hB⟩
  have HB := Lib.hid hB
  clear hB
  go_wp2
  go_ret
  exact ⟨rfl, below_alloc HB.out _⟩
theorem cut_size {l a b : List UInt8} {f : Bool} (h : Lib.cut l [47] = (a, b, f)) : a.length ≤ l.length ∧ b.length ≤ l.length := by
  rcases cut_cases l 47 with ⟨_, h2⟩ | ⟨x, r, rfl, _, h2⟩
  · rw [h2] at h; cases h; simp
  · rw [h2] at h; cases h; simp; omega
theorem mk_size (l : List UInt8) : (⟨l.toArray⟩ : ByteArray).size = l.length := by rw [Lib.size_eq]
/-- what ranged answers -/
def RangedPost (l : List UInt8) (w : World) (e : Ending) (w' : World) : Prop :=
  (∃ (a b c d n : Int), e = .returned (.tuple #[quadI a b c d, .int .i64 n, .bool (rangeB l).isSome]) ∧ ∀ q m, rangeB l = some (q, m) → quadI a b c d = quadV q ∧ n = m) ∧ Below w.heap.size w w'
theorem block_of {w W : World} {g : Nat} {o : Obj} (hB : Below w.heap.size w W) (h : w.heap[g]? = some o) : W.heap[g]? = some o := (hB.block _ (Array.getElem?_eq_some_iff.1 h).1).trans h
set_option maxRecDepth 100000 in
set_option maxHeartbeats 8000000 in
theorem ranged_calls (s : ByteArray) (w : World) (hs : s.size ≤ 536870912) (hE : Env w) : Calls Tryz.prog 108 #[.string s] w (RangedPost s.data.toList w) := by
  have HE := Lib.hid hE
  obtain ⟨W0, hW0⟩ : ∃ V, w.alloc (.cells #[.int .u8 0, .int .u8 0, .int .u8 0, .int .u8 0] 193) = V := ⟨_, rfl⟩
  have hB0 : Below w.heap.size w W0 := hW0 ▸ below_alloc (Below.refl _ w) _
  have hq0 : W0.heap[w.heap.size]? = some (.cells #[.int .u8 0, .int .u8 0, .int .u8 0, .int .u8 0] 193 (0, 0)) := hW0 ▸ World.alloc_heap_new w _
  obtain ⟨m, hm⟩ := (hE.below hB0).most
  have K1 := Tryz.strings_Cut s ⟨#[47]⟩ m W0 (by omega) hm
  obtain ⟨l, hl⟩ : ∃ l, s.data.toList = l := ⟨_, rfl⟩
  rw [hl, show (⟨#[47]⟩ : ByteArray).data.toList = [47] from rfl] at K1
  rw [hl]
  have hls : l.length = s.size := by rw [← hl]; rfl
  obtain ⟨x, y, f, hc⟩ : ∃ x y f, Lib.cut l [47] = (x, y, f) := ⟨_, _, _, rfl⟩
  have hcs := cut_size hc
  have hR : rangeB l = if f = true then (addrB x).bind (fun q => (numB 32 y).map fun n => (q, n)) else (addrB x).map (fun q => (q, 32)) := by
    rcases cut_cases l 47 with ⟨h1, h2⟩ | ⟨a, r, rfl, h1, h2⟩
    · rw [h2] at hc; cases hc; rw [if_neg (by simp)]; exact range_plain h1
    · rw [h2] at hc; cases hc; rw [if_pos rfl]; exact range_cut h1
  rw [hc] at K1
  have HK1 := Lib.hid K1
  have HQ := Lib.hid (And.intro hB0 hq0)
  have HR := Lib.hid hR
  clear hE hB0 hq0 hm K1 hl hc hR
  obtain ⟨R, hRR⟩ : ∃ R, rangeB l = R := ⟨_, rfl⟩
  unfold RangedPost
  rw [hRR]
  rw [hRR] at HR
  clear hRR
  have hx : (⟨x.toArray⟩ : ByteArray).size ≤ 536870912 := by rw [mk_size]; omega
  have hy : (⟨y.toArray⟩ : ByteArray).size ≤ 281474976710656 := by rw [mk_size]; omega
  obtain ⟨a, b, c, d, hv⟩ := opt_I (addrB x)
  have HV := Lib.hid hv
  have KA := Lib.hid (fun W (h : Below w.heap.size w W) => address_calls ⟨x.toArray⟩ W hx (HE.out.below h))
  rw [show ((⟨x.toArray⟩ : ByteArray).data.toList) = x from rfl, hv] at KA
  clear hv hx
  cases f with
  | false =>
    have hR2 : R = (addrB x).map (fun q => (q, 32)) := by have := HR.out; simpa using this
    have HS : Hid (R.isSome = (addrB x).isSome) := Lib.hid (by rw [hR2]; simp)
    obtain ⟨z, hz⟩ : ∃ z, (addrB x).isSome = z := ⟨_, rfl⟩
    rw [hz] at KA HS
    have HR2 := Lib.hid hR2
    clear hR2 hz
    go_enter Tryz.func108, Tryz.ntmps108
    go_wp2_with fail
    clear hW0
    refine HK1.out.mono ?_
    rintro e w1 ⟨rfl, n1, rfl⟩
    have HB1 := Lib.hid (below_step HQ.out.1 (Drawn0.mk ⟨n1, rfl⟩).below)
    go_wp2_with fail
    refine (KA.out _ HB1.out).mono ?_
    rintro e w2 ⟨rfl, hB2⟩
    have HB2 := Lib.hid (below_step HB1.out hB2)
    have hq2 := block_of hB2 (show (W0.drewN n1).heap[w.heap.size]? = _ from HQ.out.2)
    have HQ2 := Lib.hid hq2
    have c0 := cell_row (k := 0) (v := .int .u8 0) hq2 rfl
    have c1 := cell_row (k := 1) (v := .int .u8 0) hq2 rfl
    have c2 := cell_row (k := 2) (v := .int .u8 0) hq2 rfl
    have c3 := cell_row (k := 3) (v := .int .u8 0) hq2 rfl
    have f0 := frozen_of_row w2 w.heap.size 0 _ _ hq2
    have f1 := frozen_of_row w2 w.heap.size 1 _ _ hq2
    have f2 := frozen_of_row w2 w.heap.size 2 _ _ hq2
    have f3 := frozen_of_row w2 w.heap.size 3 _ _ hq2
    have hlt := (Array.getElem?_eq_some_iff.1 hq2).1
    clear hB2 hq2
    go_wp2
    have hh := set4 HQ2.out (x := .int .u8 a) (y := .int .u8 b) (z := .int .u8 c) (u := .int .u8 d)
    have hh2 := (Below.heap_alloc _ (.cells #[.int .u8 a, .int .u8 b, .int .u8 c, .int .u8 d] 193) _ (Array.getElem?_eq_some_iff.1 hh).1).trans hh
    have d0 := cell_row (k := 0) (v := .int .u8 a) hh2 rfl
    have d1 := cell_row (k := 1) (v := .int .u8 b) hh2 rfl
    have d2 := cell_row (k := 2) (v := .int .u8 c) hh2 rfl
    have d3 := cell_row (k := 3) (v := .int .u8 d) hh2 rfl
    refine bodyPost_ret (v := .tuple #[quadI a b c d, .int .i64 (32), .bool (z)]) (by simp [results, Tryz.results108, go_sem, d0, d1, d2, d3, quadI]) rfl ⟨⟨a, b, c, d, 32, by rw [HS.out], fun q m' hq => ?_⟩, ?_⟩
    · rw [HR2.out] at hq
      obtain ⟨q', h1, h2⟩ := Option.map_eq_some_iff.1 hq
      cases h2
      have := HV.out
      rw [h1] at this
      exact ⟨this.symm, rfl⟩
    · exact below_alloc (below_set4 HB2.out (Nat.le_refl _)) _
  | true =>
    have hR2 : R = (addrB x).bind (fun q => (numB 32 y).map fun n => (q, n)) := by have := HR.out; simpa using this
    obtain ⟨z, hz⟩ : ∃ z, (addrB x).isSome = z := ⟨_, rfl⟩
    rw [hz] at KA
    cases hnum : numB 32 y with
    | some k =>
      have HS : Hid (R.isSome = z) := Lib.hid (by rw [hR2, hnum, ← hz]; cases addrB x <;> rfl)
      have KN := Lib.hid (fun W (h : Below w.heap.size w W) => number_yes ⟨y.toArray⟩ 32 k W hy (by decide) (HE.out.below h) hnum)
      have HR2 := Lib.hid hR2
      have HNU := Lib.hid hnum
      clear hR2 hz hnum
      cases z with
      | true =>
        go_enter Tryz.func108, Tryz.ntmps108
        go_wp2_with fail
        clear hW0
        refine HK1.out.mono ?_
        rintro e w1 ⟨rfl, n1, rfl⟩
        have HB1 := Lib.hid (below_step HQ.out.1 (Drawn0.mk ⟨n1, rfl⟩).below)
        go_wp2_with fail
        refine (KA.out _ HB1.out).mono ?_
        rintro e w2 ⟨rfl, hB2⟩
        have HB2 := Lib.hid (below_step HB1.out hB2)
        have hq2 := block_of hB2 (show (W0.drewN n1).heap[w.heap.size]? = _ from HQ.out.2)
        have HQ2 := Lib.hid hq2
        have HB2a := Lib.hid (below_alloc HB2.out (.cells #[.int .u8 a, .int .u8 b, .int .u8 c, .int .u8 d] 193))
        have HQ2a := Lib.hid ((Below.heap_alloc w2 (.cells #[.int .u8 a, .int .u8 b, .int .u8 c, .int .u8 d] 193) _ (Array.getElem?_eq_some_iff.1 hq2).1).trans hq2)
        have HN2a := Lib.hid (World.alloc_heap_new w2 (.cells #[.int .u8 a, .int .u8 b, .int .u8 c, .int .u8 d] 193))
        clear hB2 hq2
        go_wp2_with fail
        refine (KN.out _ HB2a.out).mono ?_
        rintro e w3 ⟨rfl, hB3⟩
        have HB3 := Lib.hid (below_step HB2a.out hB3)
        have hq3 := block_of hB3 HQ2a.out
        have hn3 := block_of hB3 HN2a.out
        have HQ3 := Lib.hid hq3
        have c0 := cell_row (k := 0) (v := .int .u8 0) hq3 rfl
        have c1 := cell_row (k := 1) (v := .int .u8 0) hq3 rfl
        have c2 := cell_row (k := 2) (v := .int .u8 0) hq3 rfl
        have c3 := cell_row (k := 3) (v := .int .u8 0) hq3 rfl
        have f0 := frozen_of_row w3 w.heap.size 0 _ _ hq3
        have f1 := frozen_of_row w3 w.heap.size 1 _ _ hq3
        have f2 := frozen_of_row w3 w.heap.size 2 _ _ hq3
        have f3 := frozen_of_row w3 w.heap.size 3 _ _ hq3
        have e0 := cell_row (k := 0) (v := .int .u8 a) hn3 rfl
        have e1 := cell_row (k := 1) (v := .int .u8 b) hn3 rfl
        have e2 := cell_row (k := 2) (v := .int .u8 c) hn3 rfl
        have e3 := cell_row (k := 3) (v := .int .u8 d) hn3 rfl
        clear hB3 hq3 hn3
        go_wp2
        have hh := set4 HQ3.out (x := .int .u8 a) (y := .int .u8 b) (z := .int .u8 c) (u := .int .u8 d)
        have d0 := cell_row (k := 0) (v := .int .u8 a) hh rfl
        have d1 := cell_row (k := 1) (v := .int .u8 b) hh rfl
        have d2 := cell_row (k := 2) (v := .int .u8 c) hh rfl
        have d3 := cell_row (k := 3) (v := .int .u8 d) hh rfl
        refine bodyPost_ret (v := .tuple #[quadI a b c d, .int .i64 k, .bool (true)]) (by simp [results, Tryz.results108, go_sem, d0, d1, d2, d3, quadI]) rfl ⟨⟨a, b, c, d, k, by rw [HS.out], fun q m' hq => ?_⟩, ?_⟩
        · rw [HR2.out, HNU.out] at hq
          obtain ⟨q', h1, h2⟩ := Option.bind_eq_some_iff.1 hq
          cases h2
          have := HV.out
          rw [h1] at this
          exact ⟨this.symm, rfl⟩
        · exact below_set4 HB3.out (Nat.le_refl _)
      | false =>
        go_enter Tryz.func108, Tryz.ntmps108
        go_wp2_with fail
        clear hW0
        refine HK1.out.mono ?_
        rintro e w1 ⟨rfl, n1, rfl⟩
        have HB1 := Lib.hid (below_step HQ.out.1 (Drawn0.mk ⟨n1, rfl⟩).below)
        go_wp2_with fail
        refine (KA.out _ HB1.out).mono ?_
        rintro e w2 ⟨rfl, hB2⟩
        have HB2 := Lib.hid (below_step HB1.out hB2)
        have hq2 := block_of hB2 (show (W0.drewN n1).heap[w.heap.size]? = _ from HQ.out.2)
        have HQ2 := Lib.hid hq2
        have HB2a := Lib.hid (below_alloc HB2.out (.cells #[.int .u8 a, .int .u8 b, .int .u8 c, .int .u8 d] 193))
        have HQ2a := Lib.hid ((Below.heap_alloc w2 (.cells #[.int .u8 a, .int .u8 b, .int .u8 c, .int .u8 d] 193) _ (Array.getElem?_eq_some_iff.1 hq2).1).trans hq2)
        have HN2a := Lib.hid (World.alloc_heap_new w2 (.cells #[.int .u8 a, .int .u8 b, .int .u8 c, .int .u8 d] 193))
        clear hB2 hq2
        go_wp2_with fail
        refine (KN.out _ HB2a.out).mono ?_
        rintro e w3 ⟨rfl, hB3⟩
        have HB3 := Lib.hid (below_step HB2a.out hB3)
        have hq3 := block_of hB3 HQ2a.out
        have hn3 := block_of hB3 HN2a.out
        have HQ3 := Lib.hid hq3
        have c0 := cell_row (k := 0) (v := .int .u8 0) hq3 rfl
        have c1 := cell_row (k := 1) (v := .int .u8 0) hq3 rfl
        have c2 := cell_row (k := 2) (v := .int .u8 0) hq3 rfl
        have c3 := cell_row (k := 3) (v := .int .u8 0) hq3 rfl
        have f0 := frozen_of_row w3 w.heap.size 0 _ _ hq3
        have f1 := frozen_of_row w3 w.heap.size 1 _ _ hq3
        have f2 := frozen_of_row w3 w.heap.size 2 _ _ hq3
        have f3 := frozen_of_row w3 w.heap.size 3 _ _ hq3
        have e0 := cell_row (k := 0) (v := .int .u8 a) hn3 rfl
        have e1 := cell_row (k := 1) (v := .int .u8 b) hn3 rfl
        have e2 := cell_row (k := 2) (v := .int .u8 c) hn3 rfl
        have e3 := cell_row (k := 3) (v := .int .u8 d) hn3 rfl
        clear hB3 hq3 hn3
        go_wp2
        have hh := set4 HQ3.out (x := .int .u8 a) (y := .int .u8 b) (z := .int .u8 c) (u := .int .u8 d)
        have d0 := cell_row (k := 0) (v := .int .u8 a) hh rfl
        have d1 := cell_row (k := 1) (v := .int .u8 b) hh rfl
        have d2 := cell_row (k := 2) (v := .int .u8 c) hh rfl
        have d3 := cell_row (k := 3) (v := .int .u8 d) hh rfl
        refine bodyPost_ret (v := .tuple #[quadI a b c d, .int .i64 k, .bool (false)]) (by simp [results, Tryz.results108, go_sem, d0, d1, d2, d3, quadI]) rfl ⟨⟨a, b, c, d, k, by rw [HS.out], fun q m' hq => ?_⟩, ?_⟩
        · have hs := HS.out; rw [hq] at hs; cases hs
        · exact below_set4 HB3.out (Nat.le_refl _)
    | none =>
      have HS : Hid (R.isSome = false) := Lib.hid (by rw [hR2, hnum]; cases addrB x <;> rfl)
      have KN := Lib.hid (fun W (h : Below w.heap.size w W) => number_no ⟨y.toArray⟩ 32 W hy (by decide) (HE.out.below h) hnum)
      clear hR2 hz hnum
      cases z with
      | true =>
        go_enter Tryz.func108, Tryz.ntmps108
        go_wp2_with fail
        clear hW0
        refine HK1.out.mono ?_
        rintro e w1 ⟨rfl, n1, rfl⟩
        have HB1 := Lib.hid (below_step HQ.out.1 (Drawn0.mk ⟨n1, rfl⟩).below)
        go_wp2_with fail
        refine (KA.out _ HB1.out).mono ?_
        rintro e w2 ⟨rfl, hB2⟩
        have HB2 := Lib.hid (below_step HB1.out hB2)
        have hq2 := block_of hB2 (show (W0.drewN n1).heap[w.heap.size]? = _ from HQ.out.2)
        have HQ2 := Lib.hid hq2
        have HB2a := Lib.hid (below_alloc HB2.out (.cells #[.int .u8 a, .int .u8 b, .int .u8 c, .int .u8 d] 193))
        have HQ2a := Lib.hid ((Below.heap_alloc w2 (.cells #[.int .u8 a, .int .u8 b, .int .u8 c, .int .u8 d] 193) _ (Array.getElem?_eq_some_iff.1 hq2).1).trans hq2)
        have HN2a := Lib.hid (World.alloc_heap_new w2 (.cells #[.int .u8 a, .int .u8 b, .int .u8 c, .int .u8 d] 193))
        clear hB2 hq2
        go_wp2_with fail
        refine (KN.out _ HB2a.out).mono ?_
        rintro e w3 ⟨⟨n3, rfl⟩, hB3⟩
        have HB3 := Lib.hid (below_step HB2a.out hB3)
        have hq3 := block_of hB3 HQ2a.out
        have hn3 := block_of hB3 HN2a.out
        have HQ3 := Lib.hid hq3
        have c0 := cell_row (k := 0) (v := .int .u8 0) hq3 rfl
        have c1 := cell_row (k := 1) (v := .int .u8 0) hq3 rfl
        have c2 := cell_row (k := 2) (v := .int .u8 0) hq3 rfl
        have c3 := cell_row (k := 3) (v := .int .u8 0) hq3 rfl
        have f0 := frozen_of_row w3 w.heap.size 0 _ _ hq3
        have f1 := frozen_of_row w3 w.heap.size 1 _ _ hq3
        have f2 := frozen_of_row w3 w.heap.size 2 _ _ hq3
        have f3 := frozen_of_row w3 w.heap.size 3 _ _ hq3
        have e0 := cell_row (k := 0) (v := .int .u8 a) hn3 rfl
        have e1 := cell_row (k := 1) (v := .int .u8 b) hn3 rfl
        have e2 := cell_row (k := 2) (v := .int .u8 c) hn3 rfl
        have e3 := cell_row (k := 3) (v := .int .u8 d) hn3 rfl
        clear hB3 hq3 hn3
        go_wp2
        have hh := set4 HQ3.out (x := .int .u8 a) (y := .int .u8 b) (z := .int .u8 c) (u := .int .u8 d)
        have d0 := cell_row (k := 0) (v := .int .u8 a) hh rfl
        have d1 := cell_row (k := 1) (v := .int .u8 b) hh rfl
        have d2 := cell_row (k := 2) (v := .int .u8 c) hh rfl
        have d3 := cell_row (k := 3) (v := .int .u8 d) hh rfl
        refine bodyPost_ret (v := .tuple #[quadI a b c d, .int .i64 n3, .bool (false)]) (by simp [results, Tryz.results108, go_sem, d0, d1, d2, d3, quadI]) rfl ⟨⟨a, b, c, d, n3, by rw [HS.out], fun q m' hq => ?_⟩, ?_⟩
        · have hs := HS.out; rw [hq] at hs; cases hs
        · exact below_set4 HB3.out (Nat.le_refl _)
      | false =>
        go_enter Tryz.func108, Tryz.ntmps108
        go_wp2_with fail
        clear hW0
        refine HK1.out.mono ?_
        rintro e w1 ⟨rfl, n1, rfl⟩
        have HB1 := Lib.hid (below_step HQ.out.1 (Drawn0.mk ⟨n1, rfl⟩).below)
        go_wp2_with fail
        refine (KA.out _ HB1.out).mono ?_
        rintro e w2 ⟨rfl, hB2⟩
        have HB2 := Lib.hid (below_step HB1.out hB2)
        have hq2 := block_of hB2 (show (W0.drewN n1).heap[w.heap.size]? = _ from HQ.out.2)
        have HQ2 := Lib.hid hq2
        have HB2a := Lib.hid (below_alloc HB2.out (.cells #[.int .u8 a, .int .u8 b, .int .u8 c, .int .u8 d] 193))
        have HQ2a := Lib.hid ((Below.heap_alloc w2 (.cells #[.int .u8 a, .int .u8 b, .int .u8 c, .int .u8 d] 193) _ (Array.getElem?_eq_some_iff.1 hq2).1).trans hq2)
        have HN2a := Lib.hid (World.alloc_heap_new w2 (.cells #[.int .u8 a, .int .u8 b, .int .u8 c, .int .u8 d] 193))
        clear hB2 hq2
        go_wp2_with fail
        refine (KN.out _ HB2a.out).mono ?_
        rintro e w3 ⟨⟨n3, rfl⟩, hB3⟩
        have HB3 := Lib.hid (below_step HB2a.out hB3)
        have hq3 := block_of hB3 HQ2a.out
        have hn3 := block_of hB3 HN2a.out
        have HQ3 := Lib.hid hq3
        have c0 := cell_row (k := 0) (v := .int .u8 0) hq3 rfl
        have c1 := cell_row (k := 1) (v := .int .u8 0) hq3 rfl
        have c2 := cell_row (k := 2) (v := .int .u8 0) hq3 rfl
        have c3 := cell_row (k := 3) (v := .int .u8 0) hq3 rfl
        have f0 := frozen_of_row w3 w.heap.size 0 _ _ hq3
        have f1 := frozen_of_row w3 w.heap.size 1 _ _ hq3
        have f2 := frozen_of_row w3 w.heap.size 2 _ _ hq3
        have f3 := frozen_of_row w3 w.heap.size 3 _ _ hq3
        have e0 := cell_row (k := 0) (v := .int .u8 a) hn3 rfl
        have e1 := cell_row (k := 1) (v := .int .u8 b) hn3 rfl
        have e2 := cell_row (k := 2) (v := .int .u8 c) hn3 rfl
        have e3 := cell_row (k := 3) (v := .int .u8 d) hn3 rfl
        clear hB3 hq3 hn3
        go_wp2
        have hh := set4 HQ3.out (x := .int .u8 a) (y := .int .u8 b) (z := .int .u8 c) (u := .int .u8 d)
        have d0 := cell_row (k := 0) (v := .int .u8 a) hh rfl
        have d1 := cell_row (k := 1) (v := .int .u8 b) hh rfl
        have d2 := cell_row (k := 2) (v := .int .u8 c) hh rfl
        have d3 := cell_row (k := 3) (v := .int .u8 d) hh rfl
        refine bodyPost_ret (v := .tuple #[quadI a b c d, .int .i64 n3, .bool (false)]) (by simp [results, Tryz.results108, go_sem, d0, d1, d2, d3, quadI]) rfl ⟨⟨a, b, c, d, n3, by rw [HS.out], fun q m' hq => ?_⟩, ?_⟩
        · have hs := HS.out; rw [hq] at hs; cases hs
        · exact below_set4 HB3.out (Nat.le_refl _)
theorem isRange_calls (s : ByteArray) (w : World) (hs : s.size ≤ 536870912) (hE : Env w) :
    Calls Tryz.prog 99 #[.string s] w fun e w' => e = .returned (.bool (rangeB s.data.toList).isSome) ∧ Below w.heap.size w w' := by
  have K1 := Lib.hid (ranged_calls s w hs hE)
  obtain ⟨r, hr⟩ : ∃ r, (rangeB s.data.toList).isSome = r := ⟨_, rfl⟩
  have HR := Lib.hid hr
  rw [hr]
  clear hE hr
  go_enter Tryz.func99, Tryz.ntmps99
  go_wp2_with fail
  refine K1.out.mono ?_
  rintro e w1 ⟨⟨a, b, c, d, n, rfl, _⟩, hB⟩
  rw [HR.out]
  unfold quadI
  have HB := Lib.hid hB
  clear hB
  go_wp2
  go_ret
  exact ⟨rfl, below_alloc HB.out _⟩
end Go.Proofs.YtgjgafibipepeaaGreatDoor.Q
namespace Go.Proofs.YtgjgafibipepeaaGreatDoor.Q
open Go.RowKit Go.Proofs.YtgjgafibipepeaaGreatDoorW.PrintWords Go.Deep Go.Maps Go.WideShapes Go.Lib
set_option linter.unusedVariables false
set_option linter.unusedSimpArgs false
attribute [local go_sem] Oper.semAt_some

/-! THE FIRST BITS -/
theorem and_all : (∀ a, a < 256 → a &&& 0 = a / 256 * 256) ∧ (∀ a, a < 256 → a &&& 128 = a / 128 * 128) ∧ (∀ a, a < 256 → a &&& 192 = a / 64 * 64) ∧ (∀ a, a < 256 → a &&& 224 = a / 32 * 32) ∧ (∀ a, a < 256 → a &&& 240 = a / 16 * 16) ∧ (∀ a, a < 256 → a &&& 248 = a / 8 * 8) ∧ (∀ a, a < 256 → a &&& 252 = a / 4 * 4) ∧ (∀ a, a < 256 → a &&& 254 = a / 2 * 2) ∧ (∀ a, a < 256 → a &&& 255 = a / 1 * 1) := by decide +kernel
theorem topI {a k : Nat} (ha : a ≤ 255) (hk : k ≤ 8) : bits .and .u8 (a : Int) (bits .xor .u8 (if IntKind.u8.signed = true then -1 else IntKind.u8.max) (255 / 2 ^ k)) = (top k a : Nat) := by
  obtain ⟨h0, h1, h2, h3, h4, h5, h6, h7, h8⟩ := and_all
  have h9 : k = 0 ∨ k = 1 ∨ k = 2 ∨ k = 3 ∨ k = 4 ∨ k = 5 ∨ k = 6 ∨ k = 7 ∨ k = 8 := by omega
  unfold top
  rcases h9 with rfl | rfl | rfl | rfl | rfl | rfl | rfl | rfl | rfl
  · rw [show bits .xor .u8 (if IntKind.u8.signed = true then -1 else IntKind.u8.max) (255 / 2 ^ 0) = ((0 : Nat) : Int) by decide +kernel, u8_and_nat a 0 (by omega) (by omega), h0 a (by omega)]
  · rw [show bits .xor .u8 (if IntKind.u8.signed = true then -1 else IntKind.u8.max) (255 / 2 ^ 1) = ((128 : Nat) : Int) by decide +kernel, u8_and_nat a 128 (by omega) (by omega), h1 a (by omega)]
  · rw [show bits .xor .u8 (if IntKind.u8.signed = true then -1 else IntKind.u8.max) (255 / 2 ^ 2) = ((192 : Nat) : Int) by decide +kernel, u8_and_nat a 192 (by omega) (by omega), h2 a (by omega)]
  · rw [show bits .xor .u8 (if IntKind.u8.signed = true then -1 else IntKind.u8.max) (255 / 2 ^ 3) = ((224 : Nat) : Int) by decide +kernel, u8_and_nat a 224 (by omega) (by omega), h3 a (by omega)]
  · rw [show bits .xor .u8 (if IntKind.u8.signed = true then -1 else IntKind.u8.max) (255 / 2 ^ 4) = ((240 : Nat) : Int) by decide +kernel, u8_and_nat a 240 (by omega) (by omega), h4 a (by omega)]
  · rw [show bits .xor .u8 (if IntKind.u8.signed = true then -1 else IntKind.u8.max) (255 / 2 ^ 5) = ((248 : Nat) : Int) by decide +kernel, u8_and_nat a 248 (by omega) (by omega), h5 a (by omega)]
  · rw [show bits .xor .u8 (if IntKind.u8.signed = true then -1 else IntKind.u8.max) (255 / 2 ^ 6) = ((252 : Nat) : Int) by decide +kernel, u8_and_nat a 252 (by omega) (by omega), h6 a (by omega)]
  · rw [show bits .xor .u8 (if IntKind.u8.signed = true then -1 else IntKind.u8.max) (255 / 2 ^ 7) = ((254 : Nat) : Int) by decide +kernel, u8_and_nat a 254 (by omega) (by omega), h7 a (by omega)]
  · rw [show bits .xor .u8 (if IntKind.u8.signed = true then -1 else IntKind.u8.max) (255 / 2 ^ 8) = ((255 : Nat) : Int) by decide +kernel, u8_and_nat a 255 (by omega) (by omega), h8 a (by omega)]
theorem topI2 {a k : Nat} (ha : a ≤ 255) (hk : k ≤ 8) : bits .and .u8 (a : Int) (bits .xor .u8 IntKind.u8.max (255 / 2 ^ k)) = (top k a : Nat) := topI ha hk
set_option maxRecDepth 100000 in
set_option maxHeartbeats 8000000 in
theorem cut_calls (q : Quad) (n : Nat) (w : World) (hn : n ≤ 32) (hq : small q) :
    Calls Tryz.prog 110 #[quadV q, .int .i64 n] w fun e w' => e = .returned (quadV (cutQ n q)) ∧ Below w.heap.size w w' := by
  obtain ⟨a, b, c, d⟩ := q
  obtain ⟨h1, h2, h3, h4⟩ := hq
  simp only at h1 h2 h3 h4
  unfold quadV byteV
  obtain ⟨W0, hW0⟩ : ∃ V, (w.alloc (.cells #[.int .u8 a, .int .u8 b, .int .u8 c, .int .u8 d] 193)).alloc (.cells #[.int .u8 0, .int .u8 0, .int .u8 0, .int .u8 0] 193) = V := ⟨_, rfl⟩
  have hB0 : Below w.heap.size w W0 := hW0 ▸ below_alloc (below_alloc (Below.refl _ w) _) _
  have hq0 : W0.heap[w.heap.size]? = some (.cells #[.int .u8 a, .int .u8 b, .int .u8 c, .int .u8 d] 193 (0, 0)) := hW0 ▸ (Below.heap_alloc _ _ _ (by simp)).trans (World.alloc_heap_new w _)
  have hr0 : W0.heap[w.heap.size + 1]? = some (.cells #[.int .u8 0, .int .u8 0, .int .u8 0, .int .u8 0] 193 (0, 0)) := by
    have := World.alloc_heap_new (w.alloc (.cells #[.int .u8 a, .int .u8 b, .int .u8 c, .int .u8 d] 193)) (.cells #[.int .u8 0, .int .u8 0, .int .u8 0, .int .u8 0] 193)
    rw [World.size_alloc] at this
    rw [← hW0]; exact this
  obtain ⟨g, hg⟩ : ∃ g, w.heap.size = g := ⟨_, rfl⟩
  have HG := Lib.hid hg
  have HQ := Lib.hid (And.intro hB0 (And.intro hq0 hr0))
  clear hB0 hq0 hr0 hg
  go_enter Tryz.func110, Tryz.ntmps110
  go_wp2_with fail
  clear hW0
  refine wp_loop_rounds 5 ?_
  rw [rounds_succ]
  have hq := HQ.out.2.1
  have cc := cell_row (k := 0) (v := .int .u8 a) hq rfl
  have ff := frozen_of_row W0 w.heap.size 0 _ _ hq
  go_wp2_with fail
  obtain ⟨k0, hk, hk80⟩ : ∃ k : Nat, min (n : Int) 8 = k ∧ k ≤ 8 := ⟨min (n - 0) 8, by omega, by omega⟩
  rw [hk]
  have HK0 := Lib.hid (show k0 = keep n 0 by unfold keep; omega)
  have hkI : (k0 : Int) ≤ 8 := by omega
  have hk0 : (0 : Int) ≤ k0 := by omega
  clear hk
  go_still_tail 8, (by kernel_rfl)
  first | rw [topI (by omega) hk80] | rw [topI2 (by omega) hk80]
  go_wp2_with fail
  obtain ⟨x0, hx0⟩ : ∃ x, top k0 a = x := ⟨_, rfl⟩
  rw [hx0]
  have HX0 := Lib.hid hx0
  obtain ⟨W1, hW1⟩ : ∃ V, World.drew (W0.setCell ⟨w.heap.size, 0, none⟩ (.int .u8 x0)) = V := ⟨_, rfl⟩
  have hBn : Below w.heap.size w W1 := hW1 ▸ (HQ.out.1.setCell (p := ⟨w.heap.size, 0, none⟩) (Nat.le_refl _) _).drew
  have hqn := heap_setCell_same W0 w.heap.size 0 _ _ (.int .u8 x0) hq
  have hrn := (Below.heap_setCell W0 ⟨w.heap.size, 0, none⟩ (.int .u8 x0) (w.heap.size + 1) (by simp)).trans HQ.out.2.2
  rw [hW1]
  replace HQ := Lib.hid (And.intro hBn (And.intro (show W1.heap[w.heap.size]? = some (.cells #[.int .u8 x0, .int .u8 b, .int .u8 c, .int .u8 d] 193 (0, 0)) by rw [← hW1]; exact hqn) (show W1.heap[w.heap.size + 1]? = some (.cells #[.int .u8 0, .int .u8 0, .int .u8 0, .int .u8 0] 193 (0, 0)) by rw [← hW1]; exact hrn)))
  clear hBn hqn hrn hW1 hq cc ff hx0 hkI hk0
  rw [rounds_succ]
  have hq := HQ.out.2.1
  have cc := cell_row (k := 1) (v := .int .u8 b) hq rfl
  have ff := frozen_of_row W1 w.heap.size 1 _ _ hq
  go_wp2_with fail
  obtain ⟨k1, hk, hk81⟩ : ∃ k : Nat, min (max ((n : Int) - 8) 0) 8 = k ∧ k ≤ 8 := ⟨min (n - 8) 8, by omega, by omega⟩
  rw [hk]
  have HK1 := Lib.hid (show k1 = keep n 1 by unfold keep; omega)
  have hkI : (k1 : Int) ≤ 8 := by omega
  have hk0 : (0 : Int) ≤ k1 := by omega
  clear hk
  go_still_tail 8, (by kernel_rfl)
  first | rw [topI (by omega) hk81] | rw [topI2 (by omega) hk81]
  go_wp2_with fail
  obtain ⟨x1, hx1⟩ : ∃ x, top k1 b = x := ⟨_, rfl⟩
  rw [hx1]
  have HX1 := Lib.hid hx1
  obtain ⟨W2, hW2⟩ : ∃ V, World.drew (W1.setCell ⟨w.heap.size, 1, none⟩ (.int .u8 x1)) = V := ⟨_, rfl⟩
  have hBn : Below w.heap.size w W2 := hW2 ▸ (HQ.out.1.setCell (p := ⟨w.heap.size, 1, none⟩) (Nat.le_refl _) _).drew
  have hqn := heap_setCell_same W1 w.heap.size 1 _ _ (.int .u8 x1) hq
  have hrn := (Below.heap_setCell W1 ⟨w.heap.size, 1, none⟩ (.int .u8 x1) (w.heap.size + 1) (by simp)).trans HQ.out.2.2
  rw [hW2]
  replace HQ := Lib.hid (And.intro hBn (And.intro (show W2.heap[w.heap.size]? = some (.cells #[.int .u8 x0, .int .u8 x1, .int .u8 c, .int .u8 d] 193 (0, 0)) by rw [← hW2]; exact hqn) (show W2.heap[w.heap.size + 1]? = some (.cells #[.int .u8 0, .int .u8 0, .int .u8 0, .int .u8 0] 193 (0, 0)) by rw [← hW2]; exact hrn)))
  clear hBn hqn hrn hW2 hq cc ff hx1 hkI hk0
  rw [rounds_succ]
  have hq := HQ.out.2.1
  have cc := cell_row (k := 2) (v := .int .u8 c) hq rfl
  have ff := frozen_of_row W2 w.heap.size 2 _ _ hq
  go_wp2_with fail
  obtain ⟨k2, hk, hk82⟩ : ∃ k : Nat, min (max ((n : Int) - 16) 0) 8 = k ∧ k ≤ 8 := ⟨min (n - 16) 8, by omega, by omega⟩
  rw [hk]
  have HK2 := Lib.hid (show k2 = keep n 2 by unfold keep; omega)
  have hkI : (k2 : Int) ≤ 8 := by omega
  have hk0 : (0 : Int) ≤ k2 := by omega
  clear hk
  go_still_tail 8, (by kernel_rfl)
  first | rw [topI (by omega) hk82] | rw [topI2 (by omega) hk82]
  go_wp2_with fail
  obtain ⟨x2, hx2⟩ : ∃ x, top k2 c = x := ⟨_, rfl⟩
  rw [hx2]
  have HX2 := Lib.hid hx2
  obtain ⟨W3, hW3⟩ : ∃ V, World.drew (W2.setCell ⟨w.heap.size, 2, none⟩ (.int .u8 x2)) = V := ⟨_, rfl⟩
  have hBn : Below w.heap.size w W3 := hW3 ▸ (HQ.out.1.setCell (p := ⟨w.heap.size, 2, none⟩) (Nat.le_refl _) _).drew
  have hqn := heap_setCell_same W2 w.heap.size 2 _ _ (.int .u8 x2) hq
  have hrn := (Below.heap_setCell W2 ⟨w.heap.size, 2, none⟩ (.int .u8 x2) (w.heap.size + 1) (by simp)).trans HQ.out.2.2
  rw [hW3]
  replace HQ := Lib.hid (And.intro hBn (And.intro (show W3.heap[w.heap.size]? = some (.cells #[.int .u8 x0, .int .u8 x1, .int .u8 x2, .int .u8 d] 193 (0, 0)) by rw [← hW3]; exact hqn) (show W3.heap[w.heap.size + 1]? = some (.cells #[.int .u8 0, .int .u8 0, .int .u8 0, .int .u8 0] 193 (0, 0)) by rw [← hW3]; exact hrn)))
  clear hBn hqn hrn hW3 hq cc ff hx2 hkI hk0
  rw [rounds_succ]
  have hq := HQ.out.2.1
  have cc := cell_row (k := 3) (v := .int .u8 d) hq rfl
  have ff := frozen_of_row W3 w.heap.size 3 _ _ hq
  go_wp2_with fail
  obtain ⟨k3, hk, hk83⟩ : ∃ k : Nat, min (max ((n : Int) - 24) 0) 8 = k ∧ k ≤ 8 := ⟨min (n - 24) 8, by omega, by omega⟩
  rw [hk]
  have HK3 := Lib.hid (show k3 = keep n 3 by unfold keep; omega)
  have hkI : (k3 : Int) ≤ 8 := by omega
  have hk0 : (0 : Int) ≤ k3 := by omega
  clear hk
  go_still_tail 8, (by kernel_rfl)
  first | rw [topI (by omega) hk83] | rw [topI2 (by omega) hk83]
  go_wp2_with fail
  obtain ⟨x3, hx3⟩ : ∃ x, top k3 d = x := ⟨_, rfl⟩
  rw [hx3]
  have HX3 := Lib.hid hx3
  obtain ⟨W4, hW4⟩ : ∃ V, World.drew (W3.setCell ⟨w.heap.size, 3, none⟩ (.int .u8 x3)) = V := ⟨_, rfl⟩
  have hBn : Below w.heap.size w W4 := hW4 ▸ (HQ.out.1.setCell (p := ⟨w.heap.size, 3, none⟩) (Nat.le_refl _) _).drew
  have hqn := heap_setCell_same W3 w.heap.size 3 _ _ (.int .u8 x3) hq
  have hrn := (Below.heap_setCell W3 ⟨w.heap.size, 3, none⟩ (.int .u8 x3) (w.heap.size + 1) (by simp)).trans HQ.out.2.2
  rw [hW4]
  replace HQ := Lib.hid (And.intro hBn (And.intro (show W4.heap[w.heap.size]? = some (.cells #[.int .u8 x0, .int .u8 x1, .int .u8 x2, .int .u8 x3] 193 (0, 0)) by rw [← hW4]; exact hqn) (show W4.heap[w.heap.size + 1]? = some (.cells #[.int .u8 0, .int .u8 0, .int .u8 0, .int .u8 0] 193 (0, 0)) by rw [← hW4]; exact hrn)))
  clear hBn hqn hrn hW4 hq cc ff hx3 hkI hk0
  rw [rounds_succ]
  have hq := HQ.out.2.1
  have hr := HQ.out.2.2
  have e0 := cell_row (k := 0) (v := .int .u8 x0) hq rfl
  have e1 := cell_row (k := 1) (v := .int .u8 x1) hq rfl
  have e2 := cell_row (k := 2) (v := .int .u8 x2) hq rfl
  have e3 := cell_row (k := 3) (v := .int .u8 x3) hq rfl
  have c0 := cell_row (k := 0) (v := .int .u8 0) hr rfl
  have c1 := cell_row (k := 1) (v := .int .u8 0) hr rfl
  have c2 := cell_row (k := 2) (v := .int .u8 0) hr rfl
  have c3 := cell_row (k := 3) (v := .int .u8 0) hr rfl
  have f0 := frozen_of_row W4 (w.heap.size + 1) 0 _ _ hr
  have f1 := frozen_of_row W4 (w.heap.size + 1) 1 _ _ hr
  have f2 := frozen_of_row W4 (w.heap.size + 1) 2 _ _ hr
  have f3 := frozen_of_row W4 (w.heap.size + 1) 3 _ _ hr
  clear hq hr
  go_wp2
  have hh := set4 HQ.out.2.2 (x := .int .u8 x0) (y := .int .u8 x1) (z := .int .u8 x2) (u := .int .u8 x3)
  have d0 := cell_row (k := 0) (v := .int .u8 x0) hh rfl
  have d1 := cell_row (k := 1) (v := .int .u8 x1) hh rfl
  have d2 := cell_row (k := 2) (v := .int .u8 x2) hh rfl
  have d3 := cell_row (k := 3) (v := .int .u8 x3) hh rfl
  have hfin : quadV (cutQ n (a, b, c, d)) = .agg #[.int .u8 x0, .int .u8 x1, .int .u8 x2, .int .u8 x3] := by
    unfold quadV cutQ byteV
    simp only
    rw [← HK0.out, ← HK1.out, ← HK2.out, ← HK3.out, HX0.out, HX1.out, HX2.out, HX3.out]
  refine bodyPost_ret (v := .agg #[.int .u8 x0, .int .u8 x1, .int .u8 x2, .int .u8 x3]) (by simp [results, Tryz.results110, go_sem, d0, d1, d2, d3]) rfl ⟨congrArg Ending.returned hfin.symm, ?_⟩
  exact below_set4 HQ.out.1 (by omega)
end Go.Proofs.YtgjgafibipepeaaGreatDoor.Q
namespace Go.Proofs.YtgjgafibipepeaaGreatDoor.Q
open Go.RowKit Go.Proofs.YtgjgafibipepeaaGreatDoorW.PrintWords Go.Deep Go.Maps Go.WideShapes Go.Lib
set_option linter.unusedVariables false
set_option linter.unusedSimpArgs false
attribute [local go_sem] Oper.semAt_some

/-! '==' OF FOUR BYTES -/
theorem run_isAgg_int (P : Program) (e : TypeId) (k : IntKind) (he : P.underlying e = some (.int k)) (w : World) : (isAgg e).run P w = .ok false w := by
  unfold isAgg
  rw [Sem.run_bind, run_underlying he w]
  simp
def tab4 (f : Nat → Int) : Array Value := #[.int .u8 (f 0), .int .u8 (f 1), .int .u8 (f 2), .int .u8 (f 3)]
def eq4 (f g : Nat → Int) : Bool := (f 0 == g 0 && (f 1 == g 1 && (f 2 == g 2 && f 3 == g 3)))
theorem run_equalIn_tab4 (d : Nat) (f g : Nat → Int) (w : World) :
    (Op.equalIn (d + 2) 193 (.agg (tab4 f)) (.agg (tab4 g))).run Tryz.prog w = .ok (eq4 f g) w := by
  have hu := run_underlying Tryz.underlying193 w
  have hsz : (sizeOf 5).run Tryz.prog w = .ok 1 w := by kernel_rfl
  have key : ∀ i, i < 4 → ∀ h : Nat → Int, (part 5 (tab4 h) i).run Tryz.prog w = .ok (.int .u8 (h i)) w := by
    intro i hi h
    unfold part
    rw [Sem.run_bind, run_isAgg_int Tryz.prog 5 .u8 Tryz.underlying5 w]
    have : i = 0 ∨ i = 1 ∨ i = 2 ∨ i = 3 := by omega
    rcases this with rfl | rfl | rfl | rfl <;> simp [tab4]
  have k0 := key 0 (by omega)
  have k1 := key 1 (by omega)
  have k2 := key 2 (by omega)
  have k3 := key 3 (by omega)
  clear key
  have hq := fun a b => run_equalIn_int (P := Tryz.prog) w d 5 .u8 .u8 a b Tryz.underlying5
  rw [Op.equalIn]
  simp only [Sem.run_bind, hu, Result.andThen_ok, hsz]
  simp only [eq4, Std.Legacy.Range.forIn_eq_forIn_range', Std.Legacy.Range.size, Nat.sub_zero, Nat.add_sub_cancel, Nat.div_one, List.range'_succ, List.range'_zero, List.forIn_cons, List.forIn_nil, Nat.mul_one, Nat.zero_mul, Nat.zero_add, Nat.reduceAdd, Sem.run_bind, k0, k1, k2, k3, hq, Result.andThen_ok]
  cases h0 : f 0 == g 0
  · simp [Sem.run_bind]
  simp only [Bool.not_true, Bool.false_eq_true, if_false, Sem.run_pure, Result.andThen_ok, Sem.run_bind, k1, hq, Bool.true_and]
  cases h1 : f 1 == g 1
  · simp [Sem.run_bind]
  simp only [Bool.not_true, Bool.false_eq_true, if_false, Sem.run_pure, Result.andThen_ok, Sem.run_bind, k2, hq, Bool.true_and]
  cases h2 : f 2 == g 2
  · simp [Sem.run_bind]
  simp only [Bool.not_true, Bool.false_eq_true, if_false, Sem.run_pure, Result.andThen_ok, Sem.run_bind, k3, hq, Bool.true_and]
  cases h3 : f 3 == g 3
  · simp [Sem.run_bind]
  simp only [Bool.not_true, Bool.false_eq_true, if_false, Sem.run_pure, Result.andThen_ok, Sem.run_bind, hq, Bool.true_and]
theorem quad_equal (p q : Quad) (W : World) : (Op.equalIn 10000 193 (quadV p) (quadV q)).run Tryz.prog W = .ok (decide (p = q)) W := by
  have h := run_equalIn_tab4 9998 (fun i => (byteAt p i : Nat)) (fun i => (byteAt q i : Nat)) W
  have e : eq4 (fun i => (byteAt p i : Nat)) (fun i => (byteAt q i : Nat)) = decide (p = q) := by
    obtain ⟨a, b, c, d⟩ := p
    obtain ⟨a', b', c', d'⟩ := q
    rw [Bool.eq_iff_iff]
    simp [eq4, byteAt, Prod.ext_iff]
    omega
  rw [e] at h
  exact h
/-! WITHIN A RANGE -/
theorem ranged_yes (s : ByteArray) (q : Quad) (n : Nat) (w : World) (hs : s.size ≤ 536870912) (hE : Env w) (h : rangeB s.data.toList = some (q, n)) :
    Calls Tryz.prog 108 #[.string s] w fun e w' => e = .returned (.tuple #[quadV q, .int .i64 n, .bool true]) ∧ Below w.heap.size w w' := by
  refine (ranged_calls s w hs hE).mono ?_
  rintro e w' ⟨⟨a, b, c, d, m, rfl, hq⟩, hB⟩
  obtain ⟨h1, rfl⟩ := hq q n h
  rw [h1, h]
  exact ⟨rfl, hB⟩
set_option maxRecDepth 100000 in
set_option maxHeartbeats 8000000 in
theorem within_calls (s t : ByteArray) (p q : Quad) (n : Nat) (w : World) (hs : s.size ≤ 536870912) (ht : t.size ≤ 536870912) (hE : Env w) (h1 : rangeB s.data.toList = some (p, n)) (h2 : addrB t.data.toList = some q) :
    Calls Tryz.prog 101 #[.string s, .string t] w fun e w' => e = .returned (.bool (decide (agree n p q))) ∧ Below w.heap.size w w' := by
  have hsm := rangeB_some.1 h1
  have hp := hsm.1
  have hn : n ≤ 32 := by rcases hsm.2 with ⟨_, h⟩ | ⟨_, h⟩ <;> omega
  have hq := (addrB_some.1 h2).2
  have hag : decide (agree n p q) = decide (cutQ n p = cutQ n q) := by rw [decide_eq_decide]; exact (cut_agree hn hp hq).symm
  rw [hag]
  have K1 := Lib.hid (ranged_yes s p n w hs hE h1)
  have K2 := Lib.hid (fun W (hB : Below w.heap.size w W) => (address_calls t W ht (hE.below hB)))
  rw [h2] at K2
  have heq := quad_equal (cutQ n p) (cutQ n q)
  have KC := Lib.hid (And.intro (fun W => cut_calls p n W hn hp) (fun W => cut_calls q n W hn hq))
  obtain ⟨x, hx⟩ : ∃ x, decide (cutQ n p = cutQ n q) = x := ⟨_, rfl⟩
  rw [hx] at heq ⊢
  clear hsm hp hq hag h1 h2 hE hx
  obtain ⟨p0, p1, p2, p3⟩ := p
  obtain ⟨q0, q1, q2, q3⟩ := q
  obtain ⟨⟨x0, x1, x2, x3⟩, hX⟩ : ∃ X, cutQ n (p0, p1, p2, p3) = X := ⟨_, rfl⟩
  obtain ⟨⟨y0, y1, y2, y3⟩, hY⟩ : ∃ X, cutQ n (q0, q1, q2, q3) = X := ⟨_, rfl⟩
  rw [hX, hY] at KC heq
  clear hX hY
  simp only [quadV, byteV, Option.map_some, Option.getD_some, Option.isSome_some] at K1 K2 KC heq
  go_enter Tryz.func101, Tryz.ntmps101
  go_wp2_with fail
  refine K1.out.mono ?_
  rintro e w1 ⟨rfl, hB1⟩
  have HB1 := Lib.hid (below_alloc hB1 (.cells #[.int .u8 p0, .int .u8 p1, .int .u8 p2, .int .u8 p3] 193))
  have HN1 := Lib.hid (World.alloc_heap_new w1 (.cells #[.int .u8 p0, .int .u8 p1, .int .u8 p2, .int .u8 p3] 193))
  clear hB1
  go_wp2_with fail
  refine (K2.out _ HB1.out).mono ?_
  rintro e w2 ⟨rfl, hB2⟩
  have hn2 := block_of hB2 HN1.out
  have hB3 := below_step HB1.out hB2
  obtain ⟨W3, hW3⟩ : ∃ V, w2.alloc (.cells #[.int .u8 q0, .int .u8 q1, .int .u8 q2, .int .u8 q3] 193) = V := ⟨_, rfl⟩
  have hn3 : W3.heap[w1.heap.size]? = some (.cells #[.int .u8 p0, .int .u8 p1, .int .u8 p2, .int .u8 p3] 193 (0, 0)) := hW3 ▸ (Below.heap_alloc w2 _ _ (Array.getElem?_eq_some_iff.1 hn2).1).trans hn2
  have hm3 : W3.heap[w2.heap.size]? = some (.cells #[.int .u8 q0, .int .u8 q1, .int .u8 q2, .int .u8 q3] 193 (0, 0)) := hW3 ▸ World.alloc_heap_new w2 _
  have HB3 := Lib.hid (hW3 ▸ below_alloc hB3 _ : Below w.heap.size w W3)
  have c0 := cell_regrown (cell_row (k := 0) (v := .int .u8 p0) hn3 rfl)
  have c1 := cell_regrown (cell_row (k := 1) (v := .int .u8 p1) hn3 rfl)
  have c2 := cell_regrown (cell_row (k := 2) (v := .int .u8 p2) hn3 rfl)
  have c3 := cell_regrown (cell_row (k := 3) (v := .int .u8 p3) hn3 rfl)
  have d0 := cell_regrown (cell_row (k := 0) (v := .int .u8 q0) hm3 rfl)
  have d1 := cell_regrown (cell_row (k := 1) (v := .int .u8 q1) hm3 rfl)
  have d2 := cell_regrown (cell_row (k := 2) (v := .int .u8 q2) hm3 rfl)
  have d3 := cell_regrown (cell_row (k := 3) (v := .int .u8 q3) hm3 rfl)
  have k1 : ∀ d os, Calls Tryz.prog 110 #[.agg #[.int .u8 p0, .int .u8 p1, .int .u8 p2, .int .u8 p3], .int .i64 n] (Go.Sort.grow (redrawn W3 d) os) fun e w'' => e = .returned (.agg #[.int .u8 x0, .int .u8 x1, .int .u8 x2, .int .u8 x3]) ∧ ∃ p : Regrown, w'' = Go.Sort.grow (redrawn W3 p.d) p.os := fun d os => Calls.regrown_of (KC.out.1 _)
  have k2 : ∀ d os, Calls Tryz.prog 110 #[.agg #[.int .u8 q0, .int .u8 q1, .int .u8 q2, .int .u8 q3], .int .i64 n] (Go.Sort.grow (redrawn W3 d) os) fun e w'' => e = .returned (.agg #[.int .u8 y0, .int .u8 y1, .int .u8 y2, .int .u8 y3]) ∧ ∃ p : Regrown, w'' = Go.Sort.grow (redrawn W3 p.d) p.os := fun d os => Calls.regrown_of (KC.out.2 _)
  clear hB2 hB3 hn2 hn3 hm3
  go_wp2_with fail
  refine wp_region_quiet_below (by kernel_rfl) (by kernel_rfl) ?_
  repeat (go_big_quiet_step (first | (with_reducible exact k1 _ _) | (with_reducible exact k2 _ _)))
  refine wpQuiet_nil ?_
  intro _ hw'
  obtain ⟨⟨dq, osq⟩, hw''⟩ := hw'
  subst hw''
  have HB4 := Lib.hid (below_step HB3.out (below_regrown W3 dq osq))
  generalize Go.Sort.grow (redrawn W3 dq) osq = W4 at *
  clear c0 c1 c2 c3 d0 d1 d2 d3 k1 k2 heq
  go_wp2
  go_ret
  exact ⟨rfl, HB4.out⟩
end Go.Proofs.YtgjgafibipepeaaGreatDoor.Q
namespace Go.Proofs.YtgjgafibipepeaaGreatDoor.Q
open Go.RowKit Go.Proofs.YtgjgafibipepeaaGreatDoorW.PrintWords Go.Deep Go.Maps Go.WideShapes Go.Lib
set_option linter.unusedVariables false
set_option linter.unusedSimpArgs false
attribute [local go_sem] Oper.semAt_some

/-! A NAME -/
theorem iterPos_of {w : World} {g : Nat} {s : ByteArray} {p : Nat} (h : w.heap[g]? = some (.stringIter s p)) : w.iterPos g = p := by simp [World.iterPos, h]
set_option maxRecDepth 100000 in
set_option maxHeartbeats 8000000 in
theorem isName_calls (s : ByteArray) (w : World) (hs : s.size ≤ 536870912) :
    Calls Tryz.prog 102 #[.string s] w fun e w' => e = .returned (.bool (nameB s.data.toList)) ∧ Below w.heap.size w w' := by
  obtain ⟨R, hR⟩ : ∃ R, nameB s.data.toList = R := ⟨_, rfl⟩
  have HR := Lib.hid hR
  rw [hR]
  clear hR
  go_enter Tryz.func102, Tryz.ntmps102
  go_wp2_with fail
  go_loopw [] (fun wr => ∃ pos : Nat, pos ≤ s.size ∧ Hid (okTo s pos) ∧ wr.heap[w.heap.size]? = some (.stringIter s pos) ∧ Hid (Below w.heap.size w wr)) (fun wr => s.size - wr.iterPos w.heap.size)
  case atStart =>
    exact ⟨0, Nat.zero_le _, Lib.hid (fun j hj => absurd hj (Nat.not_lt_zero _)), World.iter_heap w s 0, Lib.hid ((Below.refl _ w).alloc (Nat.le_refl _) _)⟩
  case round =>
    obtain ⟨pos, hle, HO, hit, HB⟩ := hrel
    by_cases hp : pos < s.size
    · have hnx : ∀ ty, (Instr.next (.pointer (some ⟨w.heap.size, 0, none⟩)) true ty).run Tryz.prog wr = _ := fun ty => Lib.run_next_any_at wr w.heap.size s pos ty hit hp
      have hit2 := Lib.iterAt_heap wr w.heap.size s pos (pos + (Utf8.decode s pos).2) hit
      have hb2 := Lib.below_iterAt HB.out (k := w.heap.size) (Nat.le_refl _) s (pos + (Utf8.decode s pos).2)
      have HB2 := Lib.hid hb2
      have HI := Lib.hid hit
      have HI2 := Lib.hid hit2
      have HOK := Lib.hid (okC_at s pos)
      have HON := Lib.hid (okC_one s pos)
      obtain ⟨c, hc⟩ : ∃ c, (Utf8.decode s pos).1 = c := ⟨_, rfl⟩
      obtain ⟨n, hn⟩ : ∃ c, (Utf8.decode s pos).2 = c := ⟨_, rfl⟩
      rw [hc] at hnx HOK HON
      rw [hn] at hnx HB2 HI2 HON
      clear hc hn hit hit2 hb2
      obtain ⟨W, hW⟩ : ∃ V, wr.iterAt w.heap.size s (pos + n) = V := ⟨_, rfl⟩
      rw [hW] at hnx HB2 HI2
      clear hW
      have hcat : (97 ≤ c ∧ c ≤ 122) ∨ (48 ≤ c ∧ c ≤ 57) ∨ (c = 46) ∨ (c = 95) ∨ (c = 45) ∨ (c < 48 ∧ c ≠ 46 ∧ c ≠ 45) ∨ (57 < c ∧ c < 97 ∧ c ≠ 95) ∨ (122 < c) := by omega
      rcases hcat with hc | hc | hc | hc | hc | hc | hc | hc
      · have HOT : Hid (okTo s (pos + n)) := Lib.hid (by
          have h1 : okC c = true := by unfold okC; simp; omega
          rw [HON.out h1]
          intro j hj
          by_cases hj2 : j < pos
          · exact HO.out j hj2
          · obtain rfl : j = pos := by omega
            rw [← HOK.out]; exact h1)
        have HN1 : Hid (n = 1) := Lib.hid (HON.out (by unfold okC; simp; omega))
        have g0 : decide ((c : Int) < 97) = false := decide_eq_false (by omega)
        have g1 : decide ((122 : Int) < (c : Int)) = false := decide_eq_false (by omega)
        clear hc
        go_wp2
        have hm1 := iterPos_of HI2.out
        have hm2 := iterPos_of HI.out
        refine ⟨⟨pos + n, by have := HN1.out; omega, HOT, HI2.out, HB2⟩, ?_⟩
        rw [hm1, hm2]; have := HN1.out; omega
      · have HOT : Hid (okTo s (pos + n)) := Lib.hid (by
          have h1 : okC c = true := by unfold okC; simp; omega
          rw [HON.out h1]
          intro j hj
          by_cases hj2 : j < pos
          · exact HO.out j hj2
          · obtain rfl : j = pos := by omega
            rw [← HOK.out]; exact h1)
        have HN1 : Hid (n = 1) := Lib.hid (HON.out (by unfold okC; simp; omega))
        have g0 : decide ((c : Int) < 97) = true := decide_eq_true (by omega)
        have g1 : decide ((c : Int) < 48) = false := decide_eq_false (by omega)
        have g2 : decide ((57 : Int) < (c : Int)) = false := decide_eq_false (by omega)
        clear hc
        go_wp2
        have hm1 := iterPos_of HI2.out
        have hm2 := iterPos_of HI.out
        refine ⟨⟨pos + n, by have := HN1.out; omega, HOT, HI2.out, HB2⟩, ?_⟩
        rw [hm1, hm2]; have := HN1.out; omega
      · have HOT : Hid (okTo s (pos + n)) := Lib.hid (by
          have h1 : okC c = true := by unfold okC; simp; omega
          rw [HON.out h1]
          intro j hj
          by_cases hj2 : j < pos
          · exact HO.out j hj2
          · obtain rfl : j = pos := by omega
            rw [← HOK.out]; exact h1)
        have HN1 : Hid (n = 1) := Lib.hid (HON.out (by unfold okC; simp; omega))
        have g0 : decide ((c : Int) < 97) = true := decide_eq_true (by omega)
        have g1 : decide ((c : Int) < 48) = true := decide_eq_true (by omega)
        have g2 : ((c : Int) != 46) = false := by rw [bne_eq_false_iff_eq]; omega
        clear hc
        go_wp2
        have hm1 := iterPos_of HI2.out
        have hm2 := iterPos_of HI.out
        refine ⟨⟨pos + n, by have := HN1.out; omega, HOT, HI2.out, HB2⟩, ?_⟩
        rw [hm1, hm2]; have := HN1.out; omega
      · have HOT : Hid (okTo s (pos + n)) := Lib.hid (by
          have h1 : okC c = true := by unfold okC; simp; omega
          rw [HON.out h1]
          intro j hj
          by_cases hj2 : j < pos
          · exact HO.out j hj2
          · obtain rfl : j = pos := by omega
            rw [← HOK.out]; exact h1)
        have HN1 : Hid (n = 1) := Lib.hid (HON.out (by unfold okC; simp; omega))
        have g0 : decide ((c : Int) < 97) = true := decide_eq_true (by omega)
        have g1 : decide ((c : Int) < 48) = false := decide_eq_false (by omega)
        have g2 : decide ((57 : Int) < (c : Int)) = true := decide_eq_true (by omega)
        have g3 : ((c : Int) != 46) = true := by rw [bne_iff_ne]; omega
        have g4 : ((c : Int) != 95) = false := by rw [bne_eq_false_iff_eq]; omega
        clear hc
        go_wp2
        have hm1 := iterPos_of HI2.out
        have hm2 := iterPos_of HI.out
        refine ⟨⟨pos + n, by have := HN1.out; omega, HOT, HI2.out, HB2⟩, ?_⟩
        rw [hm1, hm2]; have := HN1.out; omega
      · have HOT : Hid (okTo s (pos + n)) := Lib.hid (by
          have h1 : okC c = true := by unfold okC; simp; omega
          rw [HON.out h1]
          intro j hj
          by_cases hj2 : j < pos
          · exact HO.out j hj2
          · obtain rfl : j = pos := by omega
            rw [← HOK.out]; exact h1)
        have HN1 : Hid (n = 1) := Lib.hid (HON.out (by unfold okC; simp; omega))
        have g0 : decide ((c : Int) < 97) = true := decide_eq_true (by omega)
        have g1 : decide ((c : Int) < 48) = true := decide_eq_true (by omega)
        have g2 : ((c : Int) != 46) = true := by rw [bne_iff_ne]; omega
        have g3 : ((c : Int) != 95) = true := by rw [bne_iff_ne]; omega
        have g4 : ((c : Int) != 45) = false := by rw [bne_eq_false_iff_eq]; omega
        clear hc
        go_wp2
        have hm1 := iterPos_of HI2.out
        have hm2 := iterPos_of HI.out
        refine ⟨⟨pos + n, by have := HN1.out; omega, HOT, HI2.out, HB2⟩, ?_⟩
        rw [hm1, hm2]; have := HN1.out; omega
      · have hx : R = false := by
          rw [← HR.out]
          unfold nameB
          rw [not_all s hp (by rw [← HOK.out]; unfold okC; simp; omega)]
          rfl
        subst hx
        have g0 : decide ((c : Int) < 97) = true := decide_eq_true (by omega)
        have g1 : decide ((c : Int) < 48) = true := decide_eq_true (by omega)
        have g2 : ((c : Int) != 46) = true := by rw [bne_iff_ne]; omega
        have g3 : ((c : Int) != 95) = true := by rw [bne_iff_ne]; omega
        have g4 : ((c : Int) != 45) = true := by rw [bne_iff_ne]; omega
        clear hc
        go_wp2
        go_ret
        exact ⟨rfl, HB2.out⟩
      · have hx : R = false := by
          rw [← HR.out]
          unfold nameB
          rw [not_all s hp (by rw [← HOK.out]; unfold okC; simp; omega)]
          rfl
        subst hx
        have g0 : decide ((c : Int) < 97) = true := decide_eq_true (by omega)
        have g1 : decide ((c : Int) < 48) = false := decide_eq_false (by omega)
        have g2 : decide ((57 : Int) < (c : Int)) = true := decide_eq_true (by omega)
        have g3 : ((c : Int) != 46) = true := by rw [bne_iff_ne]; omega
        have g4 : ((c : Int) != 95) = true := by rw [bne_iff_ne]; omega
        have g5 : ((c : Int) != 45) = true := by rw [bne_iff_ne]; omega
        clear hc
        go_wp2
        go_ret
        exact ⟨rfl, HB2.out⟩
      · have hx : R = false := by
          rw [← HR.out]
          unfold nameB
          rw [not_all s hp (by rw [← HOK.out]; unfold okC; simp; omega)]
          rfl
        subst hx
        have g0 : decide ((c : Int) < 97) = false := decide_eq_false (by omega)
        have g1 : decide ((122 : Int) < (c : Int)) = true := decide_eq_true (by omega)
        have g2 : decide ((c : Int) < 48) = false := decide_eq_false (by omega)
        have g3 : decide ((57 : Int) < (c : Int)) = true := decide_eq_true (by omega)
        have g4 : ((c : Int) != 46) = true := by rw [bne_iff_ne]; omega
        have g5 : ((c : Int) != 95) = true := by rw [bne_iff_ne]; omega
        have g6 : ((c : Int) != 45) = true := by rw [bne_iff_ne]; omega
        clear hc
        go_wp2
        go_ret
        exact ⟨rfl, HB2.out⟩
    · have hnx : ∀ ty, (Instr.next (.pointer (some ⟨w.heap.size, 0, none⟩)) true ty).run Tryz.prog wr = _ := fun ty => Lib.run_next_end_at wr w.heap.size s pos ty hit hp
      obtain rfl : pos = s.size := by omega
      have HAL := Lib.hid (okTo_all s HO.out)
      have hlen : s.data.toList.length = s.size := rfl
      have HF : Hid (R = (decide (1 ≤ s.size) && decide (s.size ≤ 24))) := Lib.hid (by rw [← HR.out]; unfold nameB; rw [HAL.out, hlen]; simp)
      clear hit hlen
      by_cases h1 : 1 ≤ s.size
      · have g1 : decide (1 ≤ s.size) = true := decide_eq_true h1
        have g1' : decide ((1 : Int) ≤ (s.size : Int)) = true := decide_eq_true (by omega)
        by_cases h2 : s.size ≤ 24
        · have g2 : decide (s.size ≤ 24) = true := decide_eq_true h2
          have g2' : decide ((s.size : Int) ≤ 24) = true := decide_eq_true (by omega)
          obtain rfl : R = true := by rw [HF.out, g1, g2]; rfl
          go_wp2
          go_ret
          exact ⟨rfl, HB.out⟩
        · have g2 : decide (s.size ≤ 24) = false := decide_eq_false h2
          have g2' : decide ((s.size : Int) ≤ 24) = false := decide_eq_false (by omega)
          obtain rfl : R = false := by rw [HF.out, g1, g2]; rfl
          go_wp2
          go_ret
          exact ⟨rfl, HB.out⟩
      · have g1 : decide (1 ≤ s.size) = false := decide_eq_false h1
        have g1' : decide ((1 : Int) ≤ (s.size : Int)) = false := decide_eq_false (by omega)
        obtain rfl : R = false := by rw [HF.out, g1]; rfl
        go_wp2
        go_ret
        exact ⟨rfl, HB.out⟩
end Go.Proofs.YtgjgafibipepeaaGreatDoor.Q
