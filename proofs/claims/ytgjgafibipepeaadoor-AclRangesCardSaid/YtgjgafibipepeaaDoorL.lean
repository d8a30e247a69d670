import Derived.Test.YtgjgafibipepeaaDoorK
namespace Go.Proofs.YtgjgafibipepeaaDoor.Q
open Go.RowKit Go.Proofs.YtgjgafibipepeaaDoorW.PrintWords Go.Deep Go.Maps Go.WideShapes Go.Lib
set_option linter.unusedVariables false
set_option linter.unusedSimpArgs false
attribute [local go_sem] Oper.semAt_some

/-! WHO IS MET -/
theorem schNo_name {l : List UInt8} : (schNo l = 1 ↔ l = sWorld) ∧ (schNo l = 2 ↔ l = sIp) ∧ (schNo l = 3 ↔ l = sName) ∧ (schNo l = 4 ↔ l = sAuth) := by
  unfold schNo
  by_cases h1 : l = sWorld
  · subst h1; decide
  by_cases h2 : l = sIp
  · subst h2; decide
  by_cases h3 : l = sName
  · subst h3; decide
  by_cases h4 : l = sAuth
  · subst h4; decide
  simp [h1, h2, h3, h4]
def meetB (es em ws wm : List UInt8) : Bool := match schNo es with
  | 1 => true
  | 2 => (match schNo ws, rangeB em, addrB wm with
    | 2, some (p, n), some q => decide (agree n p q)
    | _, _, _ => false)
  | 3 => (schNo ws == 3) && (em == wm)
  | _ => false
theorem client_no {l m : List UInt8} (h : clientB l m = true) : schNo l = 2 ∨ schNo l = 3 := by
  unfold clientB clientN at h
  split at h
  · rename_i e; exact .inl e
  · rename_i e; exact .inr e
  · cases h
set_option maxRecDepth 100000 in
set_option maxHeartbeats 16000000 in
theorem meets_calls (s m t u : ByteArray) (w : World) (hs : s.size ≤ 536870912) (hm : m.size ≤ 536870912) (ht : t.size ≤ 536870912) (hu : u.size ≤ 536870912) (hE : Env w) (h1 : entryB s.data.toList m.data.toList = true) (h2 : clientB t.data.toList u.data.toList = true) :
    Calls Tryd.prog 21 #[.agg #[.string s, .string m], .agg #[.string t, .string u]] w fun e w' => e = .returned (.bool (meetB s.data.toList m.data.toList t.data.toList u.data.toList)) ∧ Below w.heap.size w w' := by
  have hk := client_no h2
  obtain ⟨r, hr⟩ : ∃ r, meetB s.data.toList m.data.toList t.data.toList u.data.toList = r := ⟨_, rfl⟩
  rw [hr]
  have HB0 := Lib.hid (below_alloc (below_alloc (Below.refl _ w) (.cells #[.string s, .string m] 25)) (.cells #[.string t, .string u] 25))
  have HZ0 := Lib.hid ((Below.heap_alloc (w.alloc (.cells #[.string s, .string m] 25)) (.cells #[.string t, .string u] 25) w.heap.size (by simp)).trans (World.alloc_heap_new w (.cells #[.string s, .string m] 25)))
  have hy0 := World.alloc_heap_new (w.alloc (.cells #[.string s, .string m] 25)) (.cells #[.string t, .string u] 25)
  rw [World.size_alloc] at hy0
  have HY0 := Lib.hid hy0
  have hL := Lib.toList_data s
  have hL2 := Lib.toList_data t
  clear hy0
  have hcat : schNo s.data.toList = 1 ∨ schNo s.data.toList = 2 ∨ schNo s.data.toList = 3 ∨ schNo s.data.toList = 4 := by
    have h5 := schNo_le s.data.toList
    have h0 : schNo s.data.toList ≠ 0 := fun e => by unfold entryB entryN at h1; rw [e] at h1; cases h1
    omega
  rcases hcat with hn | hn | hn | hn
  · have hx : r = true := by rw [← hr]; unfold meetB; rw [hn]; rfl
    subst hx
    have q1 : (s.toList == [119, 111, 114, 108, 100]) = true := by rw [hL, beq_iff_eq]; exact schNo_name.1.1 hn
    have HK1 := Lib.hid (sch_calls 1 s ((w.alloc (.cells #[.string s, .string m] 25)).alloc (.cells #[.string t, .string u] 25)) hs hn)
    clear h1 h2 hr hn hk hL hL2 hE
    go_enter Tryd.func21, Tryd.ntmps21
    go_wp2_with fail
    refine HK1.out.mono ?_
    rintro e w1 ⟨rfl, hB1⟩
    have HB1 := Lib.hid (below_step HB0.out hB1)
    have hz1 := block_of hB1 HZ0.out
    have hy1 := block_of hB1 HY0.out
    have c0 := cell_row (k := 0) (v := .string s) hz1 rfl
    have c1 := cell_row (k := 1) (v := .string m) hz1 rfl
    have d0 := cell_row (k := 0) (v := .string t) hy1 rfl
    have d1 := cell_row (k := 1) (v := .string u) hy1 rfl
    have hlt := (Array.getElem?_eq_some_iff.1 hz1).1
    have hlt2 := (Array.getElem?_eq_some_iff.1 hy1).1
    have HB2 := Lib.hid (below_alloc HB1.out (.cells #[fnV 44, fnV 43, .nilFunc] 62))
    simp only [schV]
    clear hB1 hz1 hy1
    go_wp2
    go_ret
    exact ⟨rfl, HB2.out⟩
  · have hsl := schNo_name.2.1.1 hn
    have q1 : (s.toList == [119, 111, 114, 108, 100]) = false := by rw [hL, hsl]; decide
    rcases hk with hk | hk
    · have q2 : (s.toList == t.toList) = true := by rw [hL, hL2, beq_iff_eq, hsl, schNo_name.2.1.1 hk]
      obtain ⟨⟨p, a⟩, hp⟩ : ∃ x, rangeB m.data.toList = some x := Option.isSome_iff_exists.1 (by unfold entryB entryN at h1; rw [hn] at h1; exact h1)
      obtain ⟨q, hq⟩ : ∃ x, addrB u.data.toList = some x := Option.isSome_iff_exists.1 (by unfold clientB clientN at h2; rw [hk] at h2; exact h2)
      have hx : r = decide (agree a p q) := by rw [← hr]; unfold meetB; rw [hn, hk, hp, hq]; rfl
      have K2 := Lib.hid (fun W (hB : Below w.heap.size w W) => within_calls m u p q a W hm hu (hE.below hB) hp hq)
      rw [← hx] at K2
      have HK1 := Lib.hid (sch_calls 2 s ((w.alloc (.cells #[.string s, .string m] 25)).alloc (.cells #[.string t, .string u] 25)) hs hn)
      clear h1 h2 hr hn hk hL hL2 hE hsl hp hq hx
      go_enter Tryd.func21, Tryd.ntmps21
      go_wp2_with fail
      refine HK1.out.mono ?_
      rintro e w1 ⟨rfl, hB1⟩
      have HB1 := Lib.hid (below_step HB0.out hB1)
      have hz1 := block_of hB1 HZ0.out
      have hy1 := block_of hB1 HY0.out
      have c0 := cell_row (k := 0) (v := .string s) hz1 rfl
      have c1 := cell_row (k := 1) (v := .string m) hz1 rfl
      have d0 := cell_row (k := 0) (v := .string t) hy1 rfl
      have d1 := cell_row (k := 1) (v := .string u) hy1 rfl
      have hlt := (Array.getElem?_eq_some_iff.1 hz1).1
      have hlt2 := (Array.getElem?_eq_some_iff.1 hy1).1
      have HB2 := Lib.hid (below_alloc HB1.out (.cells #[fnV 45, fnV 46, fnV 47] 62))
      simp only [schV]
      clear hB1 hz1 hy1
      go_wp2_with fail
      refine (K2.out _ HB2.out).mono ?_
      rintro e w3 ⟨rfl, hB3⟩
      have HB3 := Lib.hid (below_step HB2.out hB3)
      clear hB3
      go_wp2
      go_ret
      exact ⟨rfl, HB3.out⟩
    · have q2 : (s.toList == t.toList) = false := by rw [hL, hL2, hsl, schNo_name.2.2.1.1 hk]; decide
      have hx : r = false := by rw [← hr]; unfold meetB; rw [hn, hk]; rfl
      subst hx
      have HK1 := Lib.hid (sch_calls 2 s ((w.alloc (.cells #[.string s, .string m] 25)).alloc (.cells #[.string t, .string u] 25)) hs hn)
      clear h1 h2 hr hn hk hL hL2 hE hsl
      go_enter Tryd.func21, Tryd.ntmps21
      go_wp2_with fail
      refine HK1.out.mono ?_
      rintro e w1 ⟨rfl, hB1⟩
      have HB1 := Lib.hid (below_step HB0.out hB1)
      have hz1 := block_of hB1 HZ0.out
      have hy1 := block_of hB1 HY0.out
      have c0 := cell_row (k := 0) (v := .string s) hz1 rfl
      have c1 := cell_row (k := 1) (v := .string m) hz1 rfl
      have d0 := cell_row (k := 0) (v := .string t) hy1 rfl
      have d1 := cell_row (k := 1) (v := .string u) hy1 rfl
      have hlt := (Array.getElem?_eq_some_iff.1 hz1).1
      have hlt2 := (Array.getElem?_eq_some_iff.1 hy1).1
      have HB2 := Lib.hid (below_alloc HB1.out (.cells #[fnV 45, fnV 46, fnV 47] 62))
      simp only [schV]
      clear hB1 hz1 hy1
      go_wp2
      go_ret
      exact ⟨rfl, HB2.out⟩
  · have hsl := schNo_name.2.2.1.1 hn
    have q1 : (s.toList == [119, 111, 114, 108, 100]) = false := by rw [hL, hsl]; decide
    rcases hk with hk | hk
    · have q2 : (s.toList == t.toList) = false := by rw [hL, hL2, hsl, schNo_name.2.1.1 hk]; decide
      have hx : r = false := by rw [← hr]; unfold meetB; rw [hn, hk]; rfl
      subst hx
      have HK1 := Lib.hid (sch_calls 3 s ((w.alloc (.cells #[.string s, .string m] 25)).alloc (.cells #[.string t, .string u] 25)) hs hn)
      clear h1 h2 hr hn hk hL hL2 hE hsl
      go_enter Tryd.func21, Tryd.ntmps21
      go_wp2_with fail
      refine HK1.out.mono ?_
      rintro e w1 ⟨rfl, hB1⟩
      have HB1 := Lib.hid (below_step HB0.out hB1)
      have hz1 := block_of hB1 HZ0.out
      have hy1 := block_of hB1 HY0.out
      have c0 := cell_row (k := 0) (v := .string s) hz1 rfl
      have c1 := cell_row (k := 1) (v := .string m) hz1 rfl
      have d0 := cell_row (k := 0) (v := .string t) hy1 rfl
      have d1 := cell_row (k := 1) (v := .string u) hy1 rfl
      have hlt := (Array.getElem?_eq_some_iff.1 hz1).1
      have hlt2 := (Array.getElem?_eq_some_iff.1 hy1).1
      have HB2 := Lib.hid (below_alloc HB1.out (.cells #[fnV 48, fnV 48, fnV 49] 62))
      simp only [schV]
      clear hB1 hz1 hy1
      go_wp2
      go_ret
      exact ⟨rfl, HB2.out⟩
    · have q2 : (s.toList == t.toList) = true := by rw [hL, hL2, beq_iff_eq, hsl, schNo_name.2.2.1.1 hk]
      have hx : r = (m.data.toList == u.data.toList) := by rw [← hr]; unfold meetB; rw [hn, hk]; rfl
      have K2 := Lib.hid (fun W (hB : Below w.heap.size w W) => (mName_calls m u W).mono fun e w' (h : e = .returned (.bool (m.data.toList == u.data.toList)) ∧ w' = W) => (⟨h.1, by rw [h.2]; exact Below.refl _ _⟩ : e = .returned (.bool (m.data.toList == u.data.toList)) ∧ Below W.heap.size W w'))
      rw [← hx] at K2
      have HK1 := Lib.hid (sch_calls 3 s ((w.alloc (.cells #[.string s, .string m] 25)).alloc (.cells #[.string t, .string u] 25)) hs hn)
      clear h1 h2 hr hn hk hL hL2 hE hsl hx
      go_enter Tryd.func21, Tryd.ntmps21
      go_wp2_with fail
      refine HK1.out.mono ?_
      rintro e w1 ⟨rfl, hB1⟩
      have HB1 := Lib.hid (below_step HB0.out hB1)
      have hz1 := block_of hB1 HZ0.out
      have hy1 := block_of hB1 HY0.out
      have c0 := cell_row (k := 0) (v := .string s) hz1 rfl
      have c1 := cell_row (k := 1) (v := .string m) hz1 rfl
      have d0 := cell_row (k := 0) (v := .string t) hy1 rfl
      have d1 := cell_row (k := 1) (v := .string u) hy1 rfl
      have hlt := (Array.getElem?_eq_some_iff.1 hz1).1
      have hlt2 := (Array.getElem?_eq_some_iff.1 hy1).1
      have HB2 := Lib.hid (below_alloc HB1.out (.cells #[fnV 48, fnV 48, fnV 49] 62))
      simp only [schV]
      clear hB1 hz1 hy1
      go_wp2_with fail
      refine (K2.out _ HB2.out).mono ?_
      rintro e w3 ⟨rfl, hB3⟩
      have HB3 := Lib.hid (below_step HB2.out hB3)
      clear hB3
      go_wp2
      go_ret
      exact ⟨rfl, HB3.out⟩
  · have hsl := schNo_name.2.2.2.1 hn
    have q1 : (s.toList == [119, 111, 114, 108, 100]) = false := by rw [hL, hsl]; decide
    have q2 : (s.toList == t.toList) = false := by
      rcases hk with hk | hk
      · rw [hL, hL2, hsl, schNo_name.2.1.1 hk]; decide
      · rw [hL, hL2, hsl, schNo_name.2.2.1.1 hk]; decide
    have hx : r = false := by rw [← hr]; unfold meetB; rw [hn]; rfl
    subst hx
    have HK1 := Lib.hid (sch_calls 4 s ((w.alloc (.cells #[.string s, .string m] 25)).alloc (.cells #[.string t, .string u] 25)) hs hn)
    clear h1 h2 hr hn hk hL hL2 hE hsl
    go_enter Tryd.func21, Tryd.ntmps21
    go_wp2_with fail
    refine HK1.out.mono ?_
    rintro e w1 ⟨rfl, hB1⟩
    have HB1 := Lib.hid (below_step HB0.out hB1)
    have hz1 := block_of hB1 HZ0.out
    have hy1 := block_of hB1 HY0.out
    have c0 := cell_row (k := 0) (v := .string s) hz1 rfl
    have c1 := cell_row (k := 1) (v := .string m) hz1 rfl
    have d0 := cell_row (k := 0) (v := .string t) hy1 rfl
    have d1 := cell_row (k := 1) (v := .string u) hy1 rfl
    have hlt := (Array.getElem?_eq_some_iff.1 hz1).1
    have hlt2 := (Array.getElem?_eq_some_iff.1 hy1).1
    have HB2 := Lib.hid (below_alloc HB1.out (.cells #[fnV 50, fnV 43, .nilFunc] 62))
    simp only [schV]
    clear hB1 hz1 hy1
    go_wp2
    go_ret
    exact ⟨rfl, HB2.out⟩
/-- Meets, of whatever ids -/
def meetsB (es em ws wm : List UInt8) : Bool := entryB es em && (clientB ws wm && meetB es em ws wm)
set_option maxRecDepth 100000 in
set_option maxHeartbeats 8000000 in
theorem Meets_calls (s m t u : ByteArray) (w : World) (hs : s.size ≤ 536870912) (hm : m.size ≤ 536870912) (ht : t.size ≤ 536870912) (hu : u.size ≤ 536870912) (hE : Env w) :
    Calls Tryd.prog 7 #[.agg #[.string s, .string m], .agg #[.string t, .string u]] w fun e w' => e = .returned (.bool (meetsB s.data.toList m.data.toList t.data.toList u.data.toList)) ∧ Below w.heap.size w w' := by
  have HB0 := Lib.hid (below_alloc (below_alloc (Below.refl _ w) (.cells #[.string s, .string m] 25)) (.cells #[.string t, .string u] 25))
  have HZ0 := Lib.hid ((Below.heap_alloc (w.alloc (.cells #[.string s, .string m] 25)) (.cells #[.string t, .string u] 25) w.heap.size (by simp)).trans (World.alloc_heap_new w (.cells #[.string s, .string m] 25)))
  have hy0 := World.alloc_heap_new (w.alloc (.cells #[.string s, .string m] 25)) (.cells #[.string t, .string u] 25)
  rw [World.size_alloc] at hy0
  have HY0 := Lib.hid hy0
  have K1 := Lib.hid (fun W (hB : Below w.heap.size w W) => entryId_calls s m W hs hm (hE.below hB))
  have K2 := Lib.hid (fun W (hB : Below w.heap.size w W) => clientId_calls t u W ht hu (hE.below hB))
  have K3 := Lib.hid (fun W (hB : Below w.heap.size w W) => meets_calls s m t u W hs hm ht hu (hE.below hB))
  unfold meetsB
  obtain ⟨a, ha⟩ : ∃ a, entryB s.data.toList m.data.toList = a := ⟨_, rfl⟩
  obtain ⟨b, hb⟩ : ∃ b, clientB t.data.toList u.data.toList = b := ⟨_, rfl⟩
  rw [ha] at K1 K3
  rw [hb] at K2 K3
  rw [ha, hb]
  clear hy0 hE ha hb
  cases a with
  | false =>
    go_enter Tryd.func7, Tryd.ntmps7
    go_wp2_with fail
    refine (K1.out _ HB0.out).mono ?_
    rintro e w1 ⟨rfl, hB1⟩
    have HB1 := Lib.hid (below_step HB0.out hB1)
    clear hB1
    go_wp2
    go_ret
    exact ⟨rfl, HB1.out⟩
  | true =>
    cases b with
    | false =>
      go_enter Tryd.func7, Tryd.ntmps7
      go_wp2_with fail
      refine (K1.out _ HB0.out).mono ?_
      rintro e w1 ⟨rfl, hB1⟩
      have HB1 := Lib.hid (below_step HB0.out hB1)
      have hy1 := block_of hB1 HY0.out
      have d0 := cell_row (k := 0) (v := .string t) hy1 rfl
      have d1 := cell_row (k := 1) (v := .string u) hy1 rfl
      clear hB1 hy1
      go_wp2_with fail
      refine (K2.out _ HB1.out).mono ?_
      rintro e w2 ⟨rfl, hB2⟩
      have HB2 := Lib.hid (below_step HB1.out hB2)
      clear hB2
      go_wp2
      go_ret
      exact ⟨rfl, HB2.out⟩
    | true =>
      have K4 := Lib.hid (fun W (hB : Below w.heap.size w W) => K3.out W hB rfl rfl)
      obtain ⟨r, hr⟩ : ∃ r, meetB s.data.toList m.data.toList t.data.toList u.data.toList = r := ⟨_, rfl⟩
      rw [hr] at K4
      rw [hr]
      clear hr K3
      go_enter Tryd.func7, Tryd.ntmps7
      go_wp2_with fail
      refine (K1.out _ HB0.out).mono ?_
      rintro e w1 ⟨rfl, hB1⟩
      have HB1 := Lib.hid (below_step HB0.out hB1)
      have hy1 := block_of hB1 HY0.out
      have hz1 := block_of hB1 HZ0.out
      have HZ1 := Lib.hid (And.intro hy1 hz1)
      have d0 := cell_row (k := 0) (v := .string t) hy1 rfl
      have d1 := cell_row (k := 1) (v := .string u) hy1 rfl
      clear hB1 hy1 hz1
      go_wp2_with fail
      refine (K2.out _ HB1.out).mono ?_
      rintro e w2 ⟨rfl, hB2⟩
      have HB2 := Lib.hid (below_step HB1.out hB2)
      have hy2 := block_of hB2 HZ1.out.1
      have hz2 := block_of hB2 HZ1.out.2
      have e0 := cell_row (k := 0) (v := .string t) hy2 rfl
      have e1 := cell_row (k := 1) (v := .string u) hy2 rfl
      have c0 := cell_row (k := 0) (v := .string s) hz2 rfl
      have c1 := cell_row (k := 1) (v := .string m) hz2 rfl
      clear hB2 hy2 hz2 d0 d1
      go_wp2_with fail
      refine (K4.out _ HB2.out).mono ?_
      rintro e w3 ⟨rfl, hB3⟩
      have HB3 := Lib.hid (below_step HB2.out hB3)
      clear hB3
      go_wp2
      go_ret
      exact ⟨rfl, HB3.out⟩
end Go.Proofs.YtgjgafibipepeaaDoor.Q
