import Derived.Test.YtgjgafibipepeaaDoorD
namespace Go.Proofs.YtgjgafibipepeaaDoor.Q
open Go.RowKit Go.Proofs.YtgjgafibipepeaaDoorW.PrintWords Go.Deep Go.Maps Go.WideShapes Go.Lib
set_option linter.unusedVariables false
set_option linter.unusedSimpArgs false
attribute [local go_sem] Oper.semAt_some

/-! A RANGE -/
def quadI (a b c d : Int) : Value := .agg #[.int .u8 a, .int .u8 b, .int .u8 c, .int .u8 d]
theorem quadV_I (q : Quad) : quadV q = quadI q.1 q.2.1 q.2.2.1 q.2.2.2 := rfl
theorem noQuad_I : noQuad = quadI 0 0 0 0 := rfl
theorem opt_I (x : Option Quad) : ∃ a b c d : Int, (x.map quadV).getD noQuad = .agg #[.int .u8 a, .int .u8 b, .int .u8 c, .int .u8 d] := by
  cases x with
  | none => exact ⟨0, 0, 0, 0, rfl⟩
  | some q => exact ⟨_, _, _, _, rfl⟩
theorem isAddress_calls (s : ByteArray) (w : World) (hs : s.size ≤ 536870912) (hE : Env w) :
    Calls Tryd.prog 46 #[.string s] w fun e w' => e = .returned (.bool (addrB s.data.toList).isSome) ∧ Below w.heap.size w w' := by
  have K1 := Lib.hid (address_calls s w hs hE)
  obtain ⟨a, b, c, d, hv⟩ := opt_I (addrB s.data.toList)
  obtain ⟨r, hr⟩ : ∃ r, (addrB s.data.toList).isSome = r := ⟨_, rfl⟩
  rw [hv, hr] at K1
  rw [hr]
  clear hE hv hr
  go_enter Tryd.func46, Tryd.ntmps46
  go_wp2_with fail
  refine K1.out.mono ?_
  rintro e w1 ⟨rfl, hB⟩
  have HB := Lib.hid hB
  clear hB
  go_wp2
  go_ret
  exact ⟨rfl, below_alloc HB.out _⟩
theorem cut_size {l a b : List UInt8} {f : Bool} (h : Lib.cut l [47] = (a, b, f)) : a.length ≤ l.length ∧ b.length ≤ l.length := by
  rcases cut_cases l 47 with ⟨_, h2⟩ | ⟨x, r, rfl, _, h2⟩
  · rw [h2] at h; cases h; simp
  · rw [h2] at h; cases h; simp; omega
theorem mk_size (l : List UInt8) : (⟨l.toArray⟩ : ByteArray).size = l.length := by rw [Lib.size_eq]
/-- what ranged answers -/
def RangedPost (l : List UInt8) (w : World) (e : Ending) (w' : World) : Prop :=
  (∃ (a b c d n : Int), e = .returned (.tuple #[quadI a b c d, .int .i64 n, .bool (rangeB l).isSome]) ∧ ∀ q m, rangeB l = some (q, m) → quadI a b c d = quadV q ∧ n = m) ∧ Below w.heap.size w w'
theorem cells4 {W : World} {g : Nat} {t : TypeId} {a b c d : Value} (h : W.heap[g]? = some (.cells #[a, b, c, d] t (0, 0))) :
    W.cell? ⟨g, 0, none⟩ = some a ∧ W.cell? ⟨g, 1, none⟩ = some b ∧ W.cell? ⟨g, 2, none⟩ = some c ∧ W.cell? ⟨g, 3, none⟩ = some d :=
  ⟨cell_row h rfl, cell_row h rfl, cell_row h rfl, cell_row h rfl⟩
theorem block_of {w W : World} {g : Nat} {o : Obj} (hB : Below w.heap.size w W) (h : w.heap[g]? = some o) : W.heap[g]? = some o := (hB.block _ (Array.getElem?_eq_some_iff.1 h).1).trans h
set_option maxRecDepth 100000 in
set_option maxHeartbeats 8000000 in
theorem ranged_calls (s : ByteArray) (w : World) (hs : s.size ≤ 536870912) (hE : Env w) : Calls Tryd.prog 52 #[.string s] w (RangedPost s.data.toList w) := by
  have HE := Lib.hid hE
  obtain ⟨W0, hW0⟩ : ∃ V, w.alloc (.cells #[.int .u8 0, .int .u8 0, .int .u8 0, .int .u8 0] 22) = V := ⟨_, rfl⟩
  have hB0 : Below w.heap.size w W0 := hW0 ▸ below_alloc (Below.refl _ w) _
  have hq0 : W0.heap[w.heap.size]? = some (.cells #[.int .u8 0, .int .u8 0, .int .u8 0, .int .u8 0] 22 (0, 0)) := hW0 ▸ World.alloc_heap_new w _
  obtain ⟨m, hm⟩ := (hE.below hB0).most
  have K1 := Tryd.strings_Cut s ⟨#[47]⟩ m W0 (by omega) hm
  obtain ⟨l, hl⟩ : ∃ l, s.data.toList = l := ⟨_, rfl⟩
  rw [hl, show (⟨#[47]⟩ : ByteArray).data.toList = [47] from rfl] at K1
  rw [hl]
  have hls : l.length = s.size := by rw [← hl]; rfl
  obtain ⟨x, y, f, hc⟩ : ∃ x y f, Lib.cut l [47] = (x, y, f) := ⟨_, _, _, rfl⟩
  have hcs := cut_size hc
  have hR : rangeB l = if f = true then (addrB x).bind (fun q => (numB 32 y).map fun n => (q, n)) else (addrB x).map (fun q => (q, 32)) := by
    rcases cut_cases l 47 with ⟨h1, h2⟩ | ⟨a, r, rfl, h1, h2⟩
    · rw [h2] at hc; cases hc; rw [if_neg (by simp)]; exact range_plain h1
    · rw [h2] at hc; cases hc; rw [if_pos rfl]; exact range_cut h1
  rw [hc] at K1
  have HK1 := Lib.hid K1
  have HQ := Lib.hid (And.intro hB0 hq0)
  have HR := Lib.hid hR
  clear hE hB0 hq0 hm K1 hl hc hR
  obtain ⟨R, hRR⟩ : ∃ R, rangeB l = R := ⟨_, rfl⟩
  unfold RangedPost
  rw [hRR]
  rw [hRR] at HR
  clear hRR
  have hx : (⟨x.toArray⟩ : ByteArray).size ≤ 536870912 := by rw [mk_size]; omega
  have hy : (⟨y.toArray⟩ : ByteArray).size ≤ 281474976710656 := by rw [mk_size]; omega
  obtain ⟨a, b, c, d, hv⟩ := opt_I (addrB x)
  have HV := Lib.hid hv
  have KA := Lib.hid (fun W (h : Below w.heap.size w W) => address_calls ⟨x.toArray⟩ W hx (HE.out.below h))
  rw [show ((⟨x.toArray⟩ : ByteArray).data.toList) = x from rfl, hv] at KA
  clear hv hx
  cases f with
  | false =>
    have hR2 : R = (addrB x).map (fun q => (q, 32)) := by have := HR.out; simpa using this
    have HS : Hid (R.isSome = (addrB x).isSome) := Lib.hid (by rw [hR2]; simp)
    obtain ⟨z, hz⟩ : ∃ z, (addrB x).isSome = z := ⟨_, rfl⟩
    rw [hz] at KA HS
    have HR2 := Lib.hid hR2
    clear hR2 hz
    go_enter Tryd.func52, Tryd.ntmps52
    go_wp2_with fail
    clear hW0
    refine HK1.out.mono ?_
    rintro e w1 ⟨rfl, n1, rfl⟩
    have HB1 := Lib.hid (below_step HQ.out.1 (Drawn0.mk ⟨n1, rfl⟩).below)
    go_wp2_with fail
    refine (KA.out _ HB1.out).mono ?_
    rintro e w2 ⟨rfl, hB2⟩
    have HB2 := Lib.hid (below_step HB1.out hB2)
    have hq2 := block_of hB2 (show (W0.drewN n1).heap[w.heap.size]? = _ from HQ.out.2)
    have HQ2 := Lib.hid hq2
    have c0 := cell_row (k := 0) (v := .int .u8 0) hq2 rfl
    have c1 := cell_row (k := 1) (v := .int .u8 0) hq2 rfl
    have c2 := cell_row (k := 2) (v := .int .u8 0) hq2 rfl
    have c3 := cell_row (k := 3) (v := .int .u8 0) hq2 rfl
    have f0 := frozen_of_row w2 w.heap.size 0 _ _ hq2
    have f1 := frozen_of_row w2 w.heap.size 1 _ _ hq2
    have f2 := frozen_of_row w2 w.heap.size 2 _ _ hq2
    have f3 := frozen_of_row w2 w.heap.size 3 _ _ hq2
    have hlt := (Array.getElem?_eq_some_iff.1 hq2).1
    clear hB2 hq2
    go_wp2
    have hh := set4 HQ2.out (x := .int .u8 a) (y := .int .u8 b) (z := .int .u8 c) (u := .int .u8 d)
    have hh2 := (Below.heap_alloc _ (.cells #[.int .u8 a, .int .u8 b, .int .u8 c, .int .u8 d] 22) _ (Array.getElem?_eq_some_iff.1 hh).1).trans hh
    have d0 := cell_row (k := 0) (v := .int .u8 a) hh2 rfl
    have d1 := cell_row (k := 1) (v := .int .u8 b) hh2 rfl
    have d2 := cell_row (k := 2) (v := .int .u8 c) hh2 rfl
    have d3 := cell_row (k := 3) (v := .int .u8 d) hh2 rfl
    refine bodyPost_ret (v := .tuple #[quadI a b c d, .int .i64 (32), .bool (z)]) (by simp [results, Tryd.results52, go_sem, d0, d1, d2, d3, quadI]) rfl ⟨⟨a, b, c, d, 32, by rw [HS.out], fun q m' hq => ?_⟩, ?_⟩
    · rw [HR2.out] at hq
      obtain ⟨q', h1, h2⟩ := Option.map_eq_some_iff.1 hq
      cases h2
      have := HV.out
      rw [h1] at this
      exact ⟨this.symm, rfl⟩
    · exact below_alloc (below_set4 HB2.out (Nat.le_refl _)) _
  | true =>
    have hR2 : R = (addrB x).bind (fun q => (numB 32 y).map fun n => (q, n)) := by have := HR.out; simpa using this
    obtain ⟨z, hz⟩ : ∃ z, (addrB x).isSome = z := ⟨_, rfl⟩
    rw [hz] at KA
    cases hnum : numB 32 y with
    | some k =>
      have HS : Hid (R.isSome = z) := Lib.hid (by rw [hR2, hnum, ← hz]; cases addrB x <;> rfl)
      have KN := Lib.hid (fun W (h : Below w.heap.size w W) => number_yes ⟨y.toArray⟩ 32 k W hy (by decide) (HE.out.below h) hnum)
      have HR2 := Lib.hid hR2
      have HNU := Lib.hid hnum
      clear hR2 hz hnum
      cases z with
      | true =>
        go_enter Tryd.func52, Tryd.ntmps52
        go_wp2_with fail
        clear hW0
        refine HK1.out.mono ?_
        rintro e w1 ⟨rfl, n1, rfl⟩
        have HB1 := Lib.hid (below_step HQ.out.1 (Drawn0.mk ⟨n1, rfl⟩).below)
        go_wp2_with fail
        refine (KA.out _ HB1.out).mono ?_
        rintro e w2 ⟨rfl, hB2⟩
        have HB2 := Lib.hid (below_step HB1.out hB2)
        have hq2 := block_of hB2 (show (W0.drewN n1).heap[w.heap.size]? = _ from HQ.out.2)
        have HQ2 := Lib.hid hq2
        have HB2a := Lib.hid (below_alloc HB2.out (.cells #[.int .u8 a, .int .u8 b, .int .u8 c, .int .u8 d] 22))
        have HQ2a := Lib.hid ((Below.heap_alloc w2 (.cells #[.int .u8 a, .int .u8 b, .int .u8 c, .int .u8 d] 22) _ (Array.getElem?_eq_some_iff.1 hq2).1).trans hq2)
        have HN2a := Lib.hid (World.alloc_heap_new w2 (.cells #[.int .u8 a, .int .u8 b, .int .u8 c, .int .u8 d] 22))
        clear hB2 hq2
        go_wp2_with fail
        refine (KN.out _ HB2a.out).mono ?_
        rintro e w3 ⟨rfl, hB3⟩
        have HB3 := Lib.hid (below_step HB2a.out hB3)
        have hq3 := block_of hB3 HQ2a.out
        have hn3 := block_of hB3 HN2a.out
        have HQ3 := Lib.hid hq3
        have c0 := cell_row (k := 0) (v := .int .u8 0) hq3 rfl
        have c1 := cell_row (k := 1) (v := .int .u8 0) hq3 rfl
        have c2 := cell_row (k := 2) (v := .int .u8 0) hq3 rfl
        have c3 := cell_row (k := 3) (v := .int .u8 0) hq3 rfl
        have f0 := frozen_of_row w3 w.heap.size 0 _ _ hq3
        have f1 := frozen_of_row w3 w.heap.size 1 _ _ hq3
        have f2 := frozen_of_row w3 w.heap.size 2 _ _ hq3
        have f3 := frozen_of_row w3 w.heap.size 3 _ _ hq3
        have e0 := cell_row (k := 0) (v := .int .u8 a) hn3 rfl
        have e1 := cell_row (k := 1) (v := .int .u8 b) hn3 rfl
        have e2 := cell_row (k := 2) (v := .int .u8 c) hn3 rfl
        have e3 := cell_row (k := 3) (v := .int .u8 d) hn3 rfl
        clear hB3 hq3 hn3
        go_wp2
        have hh := set4 HQ3.out (x := .int .u8 a) (y := .int .u8 b) (z := .int .u8 c) (u := .int .u8 d)
        have d0 := cell_row (k := 0) (v := .int .u8 a) hh rfl
        have d1 := cell_row (k := 1) (v := .int .u8 b) hh rfl
        have d2 := cell_row (k := 2) (v := .int .u8 c) hh rfl
        have d3 := cell_row (k := 3) (v := .int .u8 d) hh rfl
        refine bodyPost_ret (v := .tuple #[quadI a b c d, .int .i64 k, .bool (true)]) (by simp [results, Tryd.results52, go_sem, d0, d1, d2, d3, quadI]) rfl ⟨⟨a, b, c, d, k, by rw [HS.out], fun q m' hq => ?_⟩, ?_⟩
        · rw [HR2.out, HNU.out] at hq
          obtain ⟨q', h1, h2⟩ := Option.bind_eq_some_iff.1 hq
          cases h2
          have := HV.out
          rw [h1] at this
          exact ⟨this.symm, rfl⟩
        · exact below_set4 HB3.out (Nat.le_refl _)
      | false =>
        go_enter Tryd.func52, Tryd.ntmps52
        go_wp2_with fail
        clear hW0
        refine HK1.out.mono ?_
        rintro e w1 ⟨rfl, n1, rfl⟩
        have HB1 := Lib.hid (below_step HQ.out.1 (Drawn0.mk ⟨n1, rfl⟩).below)
        go_wp2_with fail
        refine (KA.out _ HB1.out).mono ?_
        rintro e w2 ⟨rfl, hB2⟩
        have HB2 := Lib.hid (below_step HB1.out hB2)
        have hq2 := block_of hB2 (show (W0.drewN n1).heap[w.heap.size]? = _ from HQ.out.2)
        have HQ2 := Lib.hid hq2
        have HB2a := Lib.hid (below_alloc HB2.out (.cells #[.int .u8 a, .int .u8 b, .int .u8 c, .int .u8 d] 22))
        have HQ2a := Lib.hid ((Below.heap_alloc w2 (.cells #[.int .u8 a, .int .u8 b, .int .u8 c, .int .u8 d] 22) _ (Array.getElem?_eq_some_iff.1 hq2).1).trans hq2)
        have HN2a := Lib.hid (World.alloc_heap_new w2 (.cells #[.int .u8 a, .int .u8 b, .int .u8 c, .int .u8 d] 22))
        clear hB2 hq2
        go_wp2_with fail
        refine (KN.out _ HB2a.out).mono ?_
        rintro e w3 ⟨rfl, hB3⟩
        have HB3 := Lib.hid (below_step HB2a.out hB3)
        have hq3 := block_of hB3 HQ2a.out
        have hn3 := block_of hB3 HN2a.out
        have HQ3 := Lib.hid hq3
        have c0 := cell_row (k := 0) (v := .int .u8 0) hq3 rfl
        have c1 := cell_row (k := 1) (v := .int .u8 0) hq3 rfl
        have c2 := cell_row (k := 2) (v := .int .u8 0) hq3 rfl
        have c3 := cell_row (k := 3) (v := .int .u8 0) hq3 rfl
        have f0 := frozen_of_row w3 w.heap.size 0 _ _ hq3
        have f1 := frozen_of_row w3 w.heap.size 1 _ _ hq3
        have f2 := frozen_of_row w3 w.heap.size 2 _ _ hq3
        have f3 := frozen_of_row w3 w.heap.size 3 _ _ hq3
        have e0 := cell_row (k := 0) (v := .int .u8 a) hn3 rfl
        have e1 := cell_row (k := 1) (v := .int .u8 b) hn3 rfl
        have e2 := cell_row (k := 2) (v := .int .u8 c) hn3 rfl
        have e3 := cell_row (k := 3) (v := .int .u8 d) hn3 rfl
        clear hB3 hq3 hn3
        go_wp2
        have hh := set4 HQ3.out (x := .int .u8 a) (y := .int .u8 b) (z := .int .u8 c) (u := .int .u8 d)
        have d0 := cell_row (k := 0) (v := .int .u8 a) hh rfl
        have d1 := cell_row (k := 1) (v := .int .u8 b) hh rfl
        have d2 := cell_row (k := 2) (v := .int .u8 c) hh rfl
        have d3 := cell_row (k := 3) (v := .int .u8 d) hh rfl
        refine bodyPost_ret (v := .tuple #[quadI a b c d, .int .i64 k, .bool (false)]) (by simp [results, Tryd.results52, go_sem, d0, d1, d2, d3, quadI]) rfl ⟨⟨a, b, c, d, k, by rw [HS.out], fun q m' hq => ?_⟩, ?_⟩
        · have hs := HS.out; rw [hq] at hs; cases hs
        · exact below_set4 HB3.out (Nat.le_refl _)
    | none =>
      have HS : Hid (R.isSome = false) := Lib.hid (by rw [hR2, hnum]; cases addrB x <;> rfl)
      have KN := Lib.hid (fun W (h : Below w.heap.size w W) => number_no ⟨y.toArray⟩ 32 W hy (by decide) (HE.out.below h) hnum)
      clear hR2 hz hnum
      cases z with
      | true =>
        go_enter Tryd.func52, Tryd.ntmps52
        go_wp2_with fail
        clear hW0
        refine HK1.out.mono ?_
        rintro e w1 ⟨rfl, n1, rfl⟩
        have HB1 := Lib.hid (below_step HQ.out.1 (Drawn0.mk ⟨n1, rfl⟩).below)
        go_wp2_with fail
        refine (KA.out _ HB1.out).mono ?_
        rintro e w2 ⟨rfl, hB2⟩
        have HB2 := Lib.hid (below_step HB1.out hB2)
        have hq2 := block_of hB2 (show (W0.drewN n1).heap[w.heap.size]? = _ from HQ.out.2)
        have HQ2 := Lib.hid hq2
        have HB2a := Lib.hid (below_alloc HB2.out (.cells #[.int .u8 a, .int .u8 b, .int .u8 c, .int .u8 d] 22))
        have HQ2a := Lib.hid ((Below.heap_alloc w2 (.cells #[.int .u8 a, .int .u8 b, .int .u8 c, .int .u8 d] 22) _ (Array.getElem?_eq_some_iff.1 hq2).1).trans hq2)
        have HN2a := Lib.hid (World.alloc_heap_new w2 (.cells #[.int .u8 a, .int .u8 b, .int .u8 c, .int .u8 d] 22))
        clear hB2 hq2
        go_wp2_with fail
        refine (KN.out _ HB2a.out).mono ?_
        rintro e w3 ⟨⟨n3, rfl⟩, hB3⟩
        have HB3 := Lib.hid (below_step HB2a.out hB3)
        have hq3 := block_of hB3 HQ2a.out
        have hn3 := block_of hB3 HN2a.out
        have HQ3 := Lib.hid hq3
        have c0 := cell_row (k := 0) (v := .int .u8 0) hq3 rfl
        have c1 := cell_row (k := 1) (v := .int .u8 0) hq3 rfl
        have c2 := cell_row (k := 2) (v := .int .u8 0) hq3 rfl
        have c3 := cell_row (k := 3) (v := .int .u8 0) hq3 rfl
        have f0 := frozen_of_row w3 w.heap.size 0 _ _ hq3
        have f1 := frozen_of_row w3 w.heap.size 1 _ _ hq3
        have f2 := frozen_of_row w3 w.heap.size 2 _ _ hq3
        have f3 := frozen_of_row w3 w.heap.size 3 _ _ hq3
        have e0 := cell_row (k := 0) (v := .int .u8 a) hn3 rfl
        have e1 := cell_row (k := 1) (v := .int .u8 b) hn3 rfl
        have e2 := cell_row (k := 2) (v := .int .u8 c) hn3 rfl
        have e3 := cell_row (k := 3) (v := .int .u8 d) hn3 rfl
        clear hB3 hq3 hn3
        go_wp2
        have hh := set4 HQ3.out (x := .int .u8 a) (y := .int .u8 b) (z := .int .u8 c) (u := .int .u8 d)
        have d0 := cell_row (k := 0) (v := .int .u8 a) hh rfl
        have d1 := cell_row (k := 1) (v := .int .u8 b) hh rfl
        have d2 := cell_row (k := 2) (v := .int .u8 c) hh rfl
        have d3 := cell_row (k := 3) (v := .int .u8 d) hh rfl
        refine bodyPost_ret (v := .tuple #[quadI a b c d, .int .i64 n3, .bool (false)]) (by simp [results, Tryd.results52, go_sem, d0, d1, d2, d3, quadI]) rfl ⟨⟨a, b, c, d, n3, by rw [HS.out], fun q m' hq => ?_⟩, ?_⟩
        · have hs := HS.out; rw [hq] at hs; cases hs
        · exact below_set4 HB3.out (Nat.le_refl _)
      | false =>
        go_enter Tryd.func52, Tryd.ntmps52
        go_wp2_with fail
        clear hW0
        refine HK1.out.mono ?_
        rintro e w1 ⟨rfl, n1, rfl⟩
        have HB1 := Lib.hid (below_step HQ.out.1 (Drawn0.mk ⟨n1, rfl⟩).below)
        go_wp2_with fail
        refine (KA.out _ HB1.out).mono ?_
        rintro e w2 ⟨rfl, hB2⟩
        have HB2 := Lib.hid (below_step HB1.out hB2)
        have hq2 := block_of hB2 (show (W0.drewN n1).heap[w.heap.size]? = _ from HQ.out.2)
        have HQ2 := Lib.hid hq2
        have HB2a := Lib.hid (below_alloc HB2.out (.cells #[.int .u8 a, .int .u8 b, .int .u8 c, .int .u8 d] 22))
        have HQ2a := Lib.hid ((Below.heap_alloc w2 (.cells #[.int .u8 a, .int .u8 b, .int .u8 c, .int .u8 d] 22) _ (Array.getElem?_eq_some_iff.1 hq2).1).trans hq2)
        have HN2a := Lib.hid (World.alloc_heap_new w2 (.cells #[.int .u8 a, .int .u8 b, .int .u8 c, .int .u8 d] 22))
        clear hB2 hq2
        go_wp2_with fail
        refine (KN.out _ HB2a.out).mono ?_
        rintro e w3 ⟨⟨n3, rfl⟩, hB3⟩
        have HB3 := Lib.hid (below_step HB2a.out hB3)
        have hq3 := block_of hB3 HQ2a.out
        have hn3 := block_of hB3 HN2a.out
        have HQ3 := Lib.hid hq3
        have c0 := cell_row (k := 0) (v := .int .u8 0) hq3 rfl
        have c1 := cell_row (k := 1) (v := .int .u8 0) hq3 rfl
        have c2 := cell_row (k := 2) (v := .int .u8 0) hq3 rfl
        have c3 := cell_row (k := 3) (v := .int .u8 0) hq3 rfl
        have f0 := frozen_of_row w3 w.heap.size 0 _ _ hq3
        have f1 := frozen_of_row w3 w.heap.size 1 _ _ hq3
        have f2 := frozen_of_row w3 w.heap.size 2 _ _ hq3
        have f3 := frozen_of_row w3 w.heap.size 3 _ _ hq3
        have e0 := cell_row (k := 0) (v := .int .u8 a) hn3 rfl
        have e1 := cell_row (k := 1) (v := .int .u8 b) hn3 rfl
        have e2 := cell_row (k := 2) (v := .int .u8 c) hn3 rfl
        have e3 := cell_row (k := 3) (v := .int .u8 d) hn3 rfl
        clear hB3 hq3 hn3
        go_wp2
        have hh := set4 HQ3.out (x := .int .u8 a) (y := .int .u8 b) (z := .int .u8 c) (u := .int .u8 d)
        have d0 := cell_row (k := 0) (v := .int .u8 a) hh rfl
        have d1 := cell_row (k := 1) (v := .int .u8 b) hh rfl
        have d2 := cell_row (k := 2) (v := .int .u8 c) hh rfl
        have d3 := cell_row (k := 3) (v := .int .u8 d) hh rfl
        refine bodyPost_ret (v := .tuple #[quadI a b c d, .int .i64 n3, .bool (false)]) (by simp [results, Tryd.results52, go_sem, d0, d1, d2, d3, quadI]) rfl ⟨⟨a, b, c, d, n3, by rw [HS.out], fun q m' hq => ?_⟩, ?_⟩
        · have hs := HS.out; rw [hq] at hs; cases hs
        · exact below_set4 HB3.out (Nat.le_refl _)
theorem isRange_calls (s : ByteArray) (w : World) (hs : s.size ≤ 536870912) (hE : Env w) :
    Calls Tryd.prog 45 #[.string s] w fun e w' => e = .returned (.bool (rangeB s.data.toList).isSome) ∧ Below w.heap.size w w' := by
  have K1 := Lib.hid (ranged_calls s w hs hE)
  obtain ⟨r, hr⟩ : ∃ r, (rangeB s.data.toList).isSome = r := ⟨_, rfl⟩
  have HR := Lib.hid hr
  rw [hr]
  clear hE hr
  go_enter Tryd.func45, Tryd.ntmps45
  go_wp2_with fail
  refine K1.out.mono ?_
  rintro e w1 ⟨⟨a, b, c, d, n, rfl, _⟩, hB⟩
  rw [HR.out]
  unfold quadI
  have HB := Lib.hid hB
  clear hB
  go_wp2
  go_ret
  exact ⟨rfl, below_alloc HB.out _⟩
end Go.Proofs.YtgjgafibipepeaaDoor.Q
