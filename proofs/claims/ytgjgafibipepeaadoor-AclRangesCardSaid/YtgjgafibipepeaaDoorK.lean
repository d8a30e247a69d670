import Derived.Test.YtgjgafibipepeaaDoorJ
namespace Go.Proofs.YtgjgafibipepeaaDoor.Q
open Go.RowKit Go.Proofs.YtgjgafibipepeaaDoorW.PrintWords Go.Deep Go.Maps Go.WideShapes Go.Lib
set_option linter.unusedVariables false
set_option linter.unusedSimpArgs false
attribute [local go_sem] Oper.semAt_some

/-! IDS: WALKS -/
theorem sch_calls (n : Nat) (s : ByteArray) (w : World) (hs : s.size ≤ 536870912) (h : schNo s.data.toList = n) :
    Calls Tryd.prog 36 #[.string s] w fun e w' => e = .returned (.tuple #[schV n, .bool (decide (n ≠ 0))]) ∧ Below w.heap.size w w' := by
  subst h; exact schemeOf_calls s w hs
set_option maxRecDepth 100000 in
set_option maxHeartbeats 8000000 in
theorem entryId_calls (s m : ByteArray) (w : World) (hs : s.size ≤ 536870912) (hm : m.size ≤ 536870912) (hE : Env w) :
    Calls Tryd.prog 19 #[.agg #[.string s, .string m]] w fun e w' => e = .returned (.bool (entryB s.data.toList m.data.toList)) ∧ Below w.heap.size w w' := by
  obtain ⟨n, hn⟩ : ∃ n, schNo s.data.toList = n := ⟨_, rfl⟩
  have hcat : n = 0 ∨ n = 1 ∨ n = 2 ∨ n = 3 ∨ n = 4 := by have := schNo_le s.data.toList; omega
  unfold entryB
  rw [hn]
  have HN := Lib.hid hn
  have HB0 := Lib.hid (below_alloc (Below.refl _ w) (.cells #[.string s, .string m] 25))
  have HZ0 := Lib.hid (World.alloc_heap_new w (.cells #[.string s, .string m] 25))
  clear hn
  rcases hcat with rfl | rfl | rfl | rfl | rfl
  · have K1 := sch_calls 0 s (w.alloc (.cells #[.string s, .string m] 25)) hs HN.out
    have HK1 := Lib.hid K1
    clear K1
    go_enter Tryd.func19, Tryd.ntmps19
    go_wp2_with fail
    refine HK1.out.mono ?_
    rintro e w1 ⟨rfl, hB1⟩
    have HB1 := Lib.hid (below_step HB0.out hB1)
    have hz1 := block_of hB1 HZ0.out
    have c1 := cell_row (k := 1) (v := .string m) hz1 rfl
    have hlt := (Array.getElem?_eq_some_iff.1 hz1).1
    have HB2 := Lib.hid (below_alloc HB1.out (.cells #[.nilFunc, .nilFunc, .nilFunc] 62))
    simp only [schV]
    clear hB1 hz1
    go_wp2
    go_ret
    exact ⟨rfl, HB2.out⟩
  · have K1 := sch_calls 1 s (w.alloc (.cells #[.string s, .string m] 25)) hs HN.out
    have HK1 := Lib.hid K1
    have K2 := Lib.hid (fun W (hB : Below w.heap.size w W) => (show Calls Tryd.prog 44 #[.string m] W fun e w' => e = .returned (.bool ((m.data.toList == sAnyone))) ∧ Below W.heap.size W w' from (eWorld_calls m _).mono fun e w' h => ⟨h.1, by rw [h.2]; exact Below.refl _ _⟩))
    obtain ⟨r, hr⟩ : ∃ r, (m.data.toList == sAnyone) = r := ⟨_, rfl⟩
    have hr2 : entryN 1 m.data.toList = r := hr
    rw [hr] at K2
    rw [hr2]
    clear K1 hr hr2
    go_enter Tryd.func19, Tryd.ntmps19
    go_wp2_with fail
    refine HK1.out.mono ?_
    rintro e w1 ⟨rfl, hB1⟩
    have HB1 := Lib.hid (below_step HB0.out hB1)
    have hz1 := block_of hB1 HZ0.out
    have c1 := cell_row (k := 1) (v := .string m) hz1 rfl
    have hlt := (Array.getElem?_eq_some_iff.1 hz1).1
    have HB2 := Lib.hid (below_alloc HB1.out (.cells #[fnV 44, fnV 43, .nilFunc] 62))
    simp only [schV]
    clear hB1 hz1
    go_wp2_with fail
    refine (K2.out _ HB2.out).mono ?_
    rintro e w3 ⟨rfl, hB3⟩
    have HB3 := Lib.hid (below_step HB2.out hB3)
    clear hB3
    go_wp2
    go_ret
    exact ⟨rfl, HB3.out⟩
  · have K1 := sch_calls 2 s (w.alloc (.cells #[.string s, .string m] 25)) hs HN.out
    have HK1 := Lib.hid K1
    have K2 := Lib.hid (fun W (hB : Below w.heap.size w W) => (show Calls Tryd.prog 45 #[.string m] W fun e w' => e = .returned (.bool ((rangeB m.data.toList).isSome)) ∧ Below W.heap.size W w' from isRange_calls m _ hm (hE.below hB)))
    obtain ⟨r, hr⟩ : ∃ r, (rangeB m.data.toList).isSome = r := ⟨_, rfl⟩
    have hr2 : entryN 2 m.data.toList = r := hr
    rw [hr] at K2
    rw [hr2]
    clear K1 hr hr2
    go_enter Tryd.func19, Tryd.ntmps19
    go_wp2_with fail
    refine HK1.out.mono ?_
    rintro e w1 ⟨rfl, hB1⟩
    have HB1 := Lib.hid (below_step HB0.out hB1)
    have hz1 := block_of hB1 HZ0.out
    have c1 := cell_row (k := 1) (v := .string m) hz1 rfl
    have hlt := (Array.getElem?_eq_some_iff.1 hz1).1
    have HB2 := Lib.hid (below_alloc HB1.out (.cells #[fnV 45, fnV 46, fnV 47] 62))
    simp only [schV]
    clear hB1 hz1
    go_wp2_with fail
    refine (K2.out _ HB2.out).mono ?_
    rintro e w3 ⟨rfl, hB3⟩
    have HB3 := Lib.hid (below_step HB2.out hB3)
    clear hB3
    go_wp2
    go_ret
    exact ⟨rfl, HB3.out⟩
  · have K1 := sch_calls 3 s (w.alloc (.cells #[.string s, .string m] 25)) hs HN.out
    have HK1 := Lib.hid K1
    have K2 := Lib.hid (fun W (hB : Below w.heap.size w W) => (show Calls Tryd.prog 48 #[.string m] W fun e w' => e = .returned (.bool (nameB m.data.toList)) ∧ Below W.heap.size W w' from isName_calls m _ hm))
    obtain ⟨r, hr⟩ : ∃ r, nameB m.data.toList = r := ⟨_, rfl⟩
    have hr2 : entryN 3 m.data.toList = r := hr
    rw [hr] at K2
    rw [hr2]
    clear K1 hr hr2
    go_enter Tryd.func19, Tryd.ntmps19
    go_wp2_with fail
    refine HK1.out.mono ?_
    rintro e w1 ⟨rfl, hB1⟩
    have HB1 := Lib.hid (below_step HB0.out hB1)
    have hz1 := block_of hB1 HZ0.out
    have c1 := cell_row (k := 1) (v := .string m) hz1 rfl
    have hlt := (Array.getElem?_eq_some_iff.1 hz1).1
    have HB2 := Lib.hid (below_alloc HB1.out (.cells #[fnV 48, fnV 48, fnV 49] 62))
    simp only [schV]
    clear hB1 hz1
    go_wp2_with fail
    refine (K2.out _ HB2.out).mono ?_
    rintro e w3 ⟨rfl, hB3⟩
    have HB3 := Lib.hid (below_step HB2.out hB3)
    clear hB3
    go_wp2
    go_ret
    exact ⟨rfl, HB3.out⟩
  · have K1 := sch_calls 4 s (w.alloc (.cells #[.string s, .string m] 25)) hs HN.out
    have HK1 := Lib.hid K1
    have K2 := Lib.hid (fun W (hB : Below w.heap.size w W) => (show Calls Tryd.prog 50 #[.string m] W fun e w' => e = .returned (.bool ((m.data.toList == []))) ∧ Below W.heap.size W w' from (eAuth_calls m _).mono fun e w' h => ⟨h.1, by rw [h.2]; exact Below.refl _ _⟩))
    obtain ⟨r, hr⟩ : ∃ r, (m.data.toList == []) = r := ⟨_, rfl⟩
    have hr2 : entryN 4 m.data.toList = r := hr
    rw [hr] at K2
    rw [hr2]
    clear K1 hr hr2
    go_enter Tryd.func19, Tryd.ntmps19
    go_wp2_with fail
    refine HK1.out.mono ?_
    rintro e w1 ⟨rfl, hB1⟩
    have HB1 := Lib.hid (below_step HB0.out hB1)
    have hz1 := block_of hB1 HZ0.out
    have c1 := cell_row (k := 1) (v := .string m) hz1 rfl
    have hlt := (Array.getElem?_eq_some_iff.1 hz1).1
    have HB2 := Lib.hid (below_alloc HB1.out (.cells #[fnV 50, fnV 43, .nilFunc] 62))
    simp only [schV]
    clear hB1 hz1
    go_wp2_with fail
    refine (K2.out _ HB2.out).mono ?_
    rintro e w3 ⟨rfl, hB3⟩
    have HB3 := Lib.hid (below_step HB2.out hB3)
    clear hB3
    go_wp2
    go_ret
    exact ⟨rfl, HB3.out⟩
set_option maxRecDepth 100000 in
set_option maxHeartbeats 8000000 in
theorem clientId_calls (s m : ByteArray) (w : World) (hs : s.size ≤ 536870912) (hm : m.size ≤ 536870912) (hE : Env w) :
    Calls Tryd.prog 20 #[.agg #[.string s, .string m]] w fun e w' => e = .returned (.bool (clientB s.data.toList m.data.toList)) ∧ Below w.heap.size w w' := by
  obtain ⟨n, hn⟩ : ∃ n, schNo s.data.toList = n := ⟨_, rfl⟩
  have hcat : n = 0 ∨ n = 1 ∨ n = 2 ∨ n = 3 ∨ n = 4 := by have := schNo_le s.data.toList; omega
  unfold clientB
  rw [hn]
  have HN := Lib.hid hn
  have HB0 := Lib.hid (below_alloc (Below.refl _ w) (.cells #[.string s, .string m] 25))
  have HZ0 := Lib.hid (World.alloc_heap_new w (.cells #[.string s, .string m] 25))
  clear hn
  rcases hcat with rfl | rfl | rfl | rfl | rfl
  · have K1 := sch_calls 0 s (w.alloc (.cells #[.string s, .string m] 25)) hs HN.out
    have HK1 := Lib.hid K1
    clear K1
    go_enter Tryd.func20, Tryd.ntmps20
    go_wp2_with fail
    refine HK1.out.mono ?_
    rintro e w1 ⟨rfl, hB1⟩
    have HB1 := Lib.hid (below_step HB0.out hB1)
    have hz1 := block_of hB1 HZ0.out
    have c1 := cell_row (k := 1) (v := .string m) hz1 rfl
    have hlt := (Array.getElem?_eq_some_iff.1 hz1).1
    have HB2 := Lib.hid (below_alloc HB1.out (.cells #[.nilFunc, .nilFunc, .nilFunc] 62))
    simp only [schV]
    clear hB1 hz1
    go_wp2
    go_ret
    exact ⟨rfl, HB2.out⟩
  · have K1 := sch_calls 1 s (w.alloc (.cells #[.string s, .string m] 25)) hs HN.out
    have HK1 := Lib.hid K1
    have K2 := Lib.hid (fun W (hB : Below w.heap.size w W) => (show Calls Tryd.prog 43 #[.string m] W fun e w' => e = .returned (.bool (false)) ∧ Below W.heap.size W w' from (never_calls m _).mono fun e w' h => ⟨h.1, by rw [h.2]; exact Below.refl _ _⟩))
    obtain ⟨r, hr⟩ : ∃ r, false = r := ⟨_, rfl⟩
    have hr2 : clientN 1 m.data.toList = r := hr
    rw [hr] at K2
    rw [hr2]
    clear K1 hr hr2
    go_enter Tryd.func20, Tryd.ntmps20
    go_wp2_with fail
    refine HK1.out.mono ?_
    rintro e w1 ⟨rfl, hB1⟩
    have HB1 := Lib.hid (below_step HB0.out hB1)
    have hz1 := block_of hB1 HZ0.out
    have c1 := cell_row (k := 1) (v := .string m) hz1 rfl
    have hlt := (Array.getElem?_eq_some_iff.1 hz1).1
    have HB2 := Lib.hid (below_alloc HB1.out (.cells #[fnV 44, fnV 43, .nilFunc] 62))
    simp only [schV]
    clear hB1 hz1
    go_wp2_with fail
    refine (K2.out _ HB2.out).mono ?_
    rintro e w3 ⟨rfl, hB3⟩
    have HB3 := Lib.hid (below_step HB2.out hB3)
    clear hB3
    go_wp2
    go_ret
    exact ⟨rfl, HB3.out⟩
  · have K1 := sch_calls 2 s (w.alloc (.cells #[.string s, .string m] 25)) hs HN.out
    have HK1 := Lib.hid K1
    have K2 := Lib.hid (fun W (hB : Below w.heap.size w W) => (show Calls Tryd.prog 46 #[.string m] W fun e w' => e = .returned (.bool ((addrB m.data.toList).isSome)) ∧ Below W.heap.size W w' from isAddress_calls m _ hm (hE.below hB)))
    obtain ⟨r, hr⟩ : ∃ r, (addrB m.data.toList).isSome = r := ⟨_, rfl⟩
    have hr2 : clientN 2 m.data.toList = r := hr
    rw [hr] at K2
    rw [hr2]
    clear K1 hr hr2
    go_enter Tryd.func20, Tryd.ntmps20
    go_wp2_with fail
    refine HK1.out.mono ?_
    rintro e w1 ⟨rfl, hB1⟩
    have HB1 := Lib.hid (below_step HB0.out hB1)
    have hz1 := block_of hB1 HZ0.out
    have c1 := cell_row (k := 1) (v := .string m) hz1 rfl
    have hlt := (Array.getElem?_eq_some_iff.1 hz1).1
    have HB2 := Lib.hid (below_alloc HB1.out (.cells #[fnV 45, fnV 46, fnV 47] 62))
    simp only [schV]
    clear hB1 hz1
    go_wp2_with fail
    refine (K2.out _ HB2.out).mono ?_
    rintro e w3 ⟨rfl, hB3⟩
    have HB3 := Lib.hid (below_step HB2.out hB3)
    clear hB3
    go_wp2
    go_ret
    exact ⟨rfl, HB3.out⟩
  · have K1 := sch_calls 3 s (w.alloc (.cells #[.string s, .string m] 25)) hs HN.out
    have HK1 := Lib.hid K1
    have K2 := Lib.hid (fun W (hB : Below w.heap.size w W) => (show Calls Tryd.prog 48 #[.string m] W fun e w' => e = .returned (.bool (nameB m.data.toList)) ∧ Below W.heap.size W w' from isName_calls m _ hm))
    obtain ⟨r, hr⟩ : ∃ r, nameB m.data.toList = r := ⟨_, rfl⟩
    have hr2 : clientN 3 m.data.toList = r := hr
    rw [hr] at K2
    rw [hr2]
    clear K1 hr hr2
    go_enter Tryd.func20, Tryd.ntmps20
    go_wp2_with fail
    refine HK1.out.mono ?_
    rintro e w1 ⟨rfl, hB1⟩
    have HB1 := Lib.hid (below_step HB0.out hB1)
    have hz1 := block_of hB1 HZ0.out
    have c1 := cell_row (k := 1) (v := .string m) hz1 rfl
    have hlt := (Array.getElem?_eq_some_iff.1 hz1).1
    have HB2 := Lib.hid (below_alloc HB1.out (.cells #[fnV 48, fnV 48, fnV 49] 62))
    simp only [schV]
    clear hB1 hz1
    go_wp2_with fail
    refine (K2.out _ HB2.out).mono ?_
    rintro e w3 ⟨rfl, hB3⟩
    have HB3 := Lib.hid (below_step HB2.out hB3)
    clear hB3
    go_wp2
    go_ret
    exact ⟨rfl, HB3.out⟩
  · have K1 := sch_calls 4 s (w.alloc (.cells #[.string s, .string m] 25)) hs HN.out
    have HK1 := Lib.hid K1
    have K2 := Lib.hid (fun W (hB : Below w.heap.size w W) => (show Calls Tryd.prog 43 #[.string m] W fun e w' => e = .returned (.bool (false)) ∧ Below W.heap.size W w' from (never_calls m _).mono fun e w' h => ⟨h.1, by rw [h.2]; exact Below.refl _ _⟩))
    obtain ⟨r, hr⟩ : ∃ r, false = r := ⟨_, rfl⟩
    have hr2 : clientN 4 m.data.toList = r := hr
    rw [hr] at K2
    rw [hr2]
    clear K1 hr hr2
    go_enter Tryd.func20, Tryd.ntmps20
    go_wp2_with fail
    refine HK1.out.mono ?_
    rintro e w1 ⟨rfl, hB1⟩
    have HB1 := Lib.hid (below_step HB0.out hB1)
    have hz1 := block_of hB1 HZ0.out
    have c1 := cell_row (k := 1) (v := .string m) hz1 rfl
    have hlt := (Array.getElem?_eq_some_iff.1 hz1).1
    have HB2 := Lib.hid (below_alloc HB1.out (.cells #[fnV 50, fnV 43, .nilFunc] 62))
    simp only [schV]
    clear hB1 hz1
    go_wp2_with fail
    refine (K2.out _ HB2.out).mono ?_
    rintro e w3 ⟨rfl, hB3⟩
    have HB3 := Lib.hid (below_step HB2.out hB3)
    clear hB3
    go_wp2
    go_ret
    exact ⟨rfl, HB3.out⟩
end Go.Proofs.YtgjgafibipepeaaDoor.Q
