import Derived.Test.YtgjgafibipepeaaGreatDoorQb
import Derived.Laws.EntriesVeiled
import Derived.Maps.OwnOps
import Derived.StringKeys
namespace Go.Proofs.YtgjgafibipepeaaGreatDoor.Q
open Go.RowKit Go.Proofs.YtgjgafibipepeaaGreatDoorW.PrintWords Go.Deep Go.Maps Go.WideShapes Go.Lib Go.WideMaps
set_option linter.unusedVariables false
set_option linter.unusedSimpArgs false
attribute [local go_sem] Oper.semAt_some

/-! A SCHEME -/
theorem set3 {W : World} {g : Nat} {t : TypeId} {a b c x y z : Value} (h : W.heap[g]? = some (.cells #[a, b, c] t (0, 0))) :
    (((W.setCell ⟨g, 0, none⟩ x).setCell ⟨g, 1, none⟩ y).setCell ⟨g, 2, none⟩ z).heap[g]? = some (.cells #[x, y, z] t (0, 0)) := by
  have h1 := heap_setCell_same W g 0 _ _ x h
  have h2 := heap_setCell_same _ g 1 _ _ y h1
  have h3 := heap_setCell_same _ g 2 _ _ z h2
  exact h3
theorem below_set3 {w0 W : World} {g : Nat} {x y z : Value} (hB : Below w0.heap.size w0 W) (hg : w0.heap.size ≤ g) : Below w0.heap.size w0 (((W.setCell ⟨g, 0, none⟩ x).setCell ⟨g, 1, none⟩ y).setCell ⟨g, 2, none⟩ z) :=
  ((hB.setCell (p := ⟨g, 0, none⟩) hg x).setCell (p := ⟨g, 1, none⟩) hg y).setCell (p := ⟨g, 2, none⟩) hg z
abbrev sWorld : List UInt8 := [119, 111, 114, 108, 100]
abbrev sIp : List UInt8 := [105, 112]
abbrev sName : List UInt8 := [110, 97, 109, 101]
abbrev sAuth : List UInt8 := [97, 117, 116, 104]
abbrev fnV (k : Nat) : Value := .func (.func k) #[] #[]
/-- the schemes; 0: none -/
def schV : Nat → Value
  | 0 => .agg #[.nilFunc, .nilFunc, .nilFunc]
  | 1 => .agg #[fnV 98, fnV 97, .nilFunc]
  | 2 => .agg #[fnV 99, fnV 100, fnV 101]
  | 3 => .agg #[fnV 102, fnV 102, fnV 103]
  | _ => .agg #[fnV 104, fnV 97, .nilFunc]
open Classical in
/-- how a scheme reads: by its number -/
noncomputable def schR (v : Value) : Option (DataW Unit × List MemPlace) :=
  if v = schV 0 then some (.lit (.int .i64 0), []) else if v = schV 1 then some (.lit (.int .i64 1), []) else if v = schV 2 then some (.lit (.int .i64 2), [])
  else if v = schV 3 then some (.lit (.int .i64 3), []) else if v = schV 4 then some (.lit (.int .i64 4), []) else none
theorem schR0 : schR (schV 0) = some (.lit (.int .i64 0), []) := by unfold schR; rw [if_pos rfl]
theorem schR1 : schR (schV 1) = some (.lit (.int .i64 1), []) := by unfold schR; rw [if_neg (by simp [schV]), if_pos rfl]
theorem schR2 : schR (schV 2) = some (.lit (.int .i64 2), []) := by unfold schR; rw [if_neg (by simp [schV]), if_neg (by simp [schV]), if_pos rfl]
theorem schR3 : schR (schV 3) = some (.lit (.int .i64 3), []) := by unfold schR; rw [if_neg (by simp [schV]), if_neg (by simp [schV]), if_neg (by simp [schV]), if_pos rfl]
theorem schR4 : schR (schV 4) = some (.lit (.int .i64 4), []) := by unfold schR; rw [if_neg (by simp [schV]), if_neg (by simp [schV]), if_neg (by simp [schV]), if_neg (by simp [schV]), if_pos rfl]
theorem schR_inv {v : Value} {k : Nat} {ps : List MemPlace} (h : schR v = some (.lit (.int .i64 k), ps)) (hk : k ≤ 4) : v = schV k := by
  unfold schR at h
  split at h
  · rename_i e; simp at h; have : k = 0 := by omega
    rw [this]; exact e
  · split at h
    · rename_i e; simp at h; have : k = 1 := by omega
      rw [this]; exact e
    · split at h
      · rename_i e; simp at h; have : k = 2 := by omega
        rw [this]; exact e
      · split at h
        · rename_i e; simp at h; have : k = 3 := by omega
          rw [this]; exact e
        · split at h
          · rename_i e; simp at h; have : k = 4 := by omega
            rw [this]; exact e
          · cases h
theorem below_grown {w0 A B : World} {r : Nat} (h : Below w0.heap.size w0 A) (hg : A.grownBy B (some r)) (hr : w0.heap.size ≤ r) : Below w0.heap.size w0 B :=
  ⟨hg.os.trans h.os, hg.tape.trans h.tape, hg.output.trans h.output, Nat.le_trans h.size hg.size, fun k hk => (hg.block k (Nat.lt_of_lt_of_le hk h.size) (fun e => by cases e; omega)).trans (h.block k hk)⟩
theorem zeroS (w : World) : (zeroValue 105).run Tryz.prog w = .ok (schV 0) w := by kernel_rfl
theorem law9 : Keyed Tryz.prog 9 := string_keyed Tryz.underlying9
/-- the number of a scheme's name; 0: there is none -/
def schNo (l : List UInt8) : Nat := if l = sWorld then 1 else if l = sIp then 2 else if l = sName then 3 else if l = sAuth then 4 else 0
def schD : DataW Unit := ((((DataW.map []).put (.string sWorld) (.lit (.int .i64 1))).put (.string sIp) (.lit (.int .i64 2))).put (.string sName) (.lit (.int .i64 3))).put (.string sAuth) (.lit (.int .i64 4))
theorem str_ne {a b : List UInt8} (h : a ≠ b) : Lit.string a ≠ .string b := fun e => h (by cases e; rfl)
theorem schD_at (l : List UInt8) : schD.atKey (.string l) (.lit (.int .i64 0)) = .lit (.int .i64 (schNo l)) ∧ Maps.has schD (.string l) = decide (schNo l ≠ 0) := by
  have hM : IsMap (DataW.map [] : DataW Unit) := isMap_empty
  unfold schD schNo
  by_cases h4 : l = sAuth
  · subst h4
    rw [atKey_put_same (((hM.put _ _).put _ _).put _ _) (by trivial), has_put_same (((hM.put _ _).put _ _).put _ _) (by trivial)]
    exact ⟨rfl, rfl⟩
  rw [atKey_put_other (str_ne h4), has_put_other (str_ne h4), if_neg h4]
  by_cases h3 : l = sName
  · subst h3
    rw [atKey_put_same ((hM.put _ _).put _ _) (by trivial), has_put_same ((hM.put _ _).put _ _) (by trivial)]
    exact ⟨rfl, rfl⟩
  rw [atKey_put_other (str_ne h3), has_put_other (str_ne h3), if_neg h3]
  by_cases h2 : l = sIp
  · subst h2
    rw [atKey_put_same (hM.put _ _) (by trivial), has_put_same (hM.put _ _) (by trivial)]
    exact ⟨rfl, rfl⟩
  rw [atKey_put_other (str_ne h2), has_put_other (str_ne h2), if_neg h2]
  by_cases h1 : l = sWorld
  · subst h1
    rw [atKey_put_same hM (by trivial), has_put_same hM (by trivial)]
    exact ⟨rfl, rfl⟩
  rw [atKey_put_other (str_ne h1), has_put_other (str_ne h1), if_neg h1]
  exact ⟨rfl, rfl⟩
theorem schNo_le (l : List UInt8) : schNo l ≤ 4 := by
  unfold schNo
  repeat' split
  all_goals omega
set_option maxRecDepth 100000 in
set_option maxHeartbeats 8000000 in
theorem schemeOf_calls (s : ByteArray) (w : World) (hs : s.size ≤ 536870912) :
    Calls Tryz.prog 67 #[.string s] w fun e w' => e = .returned (.tuple #[schV (schNo s.data.toList), .bool (decide (schNo s.data.toList ≠ 0))]) ∧ Below w.heap.size w w' := by
  have hmm := @run_makeMap Tryz.prog
  have hW1 : Below w.heap.size w ((w.alloc (.cells #[.nilFunc, .nilFunc, .nilFunc] 105)).alloc (.map #[] 0)) := below_alloc (below_alloc (Below.refl _ w) _) _
  have own0 := World.ownsMap_made (H := Unit) (w.alloc (.cells #[.nilFunc, .nilFunc, .nilFunc] 105)) Tryz.prog 9 schR
  rw [World.size_alloc] at own0
  have kW : keyOf Tryz.prog 9 (.string ⟨#[119, 111, 114, 108, 100]⟩) = some (.string sWorld) := keyOf_string_mk Tryz.underlying9 (by decide)
  obtain ⟨W1, r1, own1, t1⟩ := own0.store law9 Tryz.underlying189 (by unfold maxLen; omega) kW schR1
  obtain ⟨W2, r2, own2, t2⟩ := own1.store law9 Tryz.underlying189 (by unfold maxLen; omega) (keyOf_string_mk (s := ⟨#[105, 112]⟩) Tryz.underlying9 (by decide)) schR2
  obtain ⟨W3, r3, own3, t3⟩ := own2.store law9 Tryz.underlying189 (by unfold maxLen; omega) (keyOf_string_mk (s := ⟨#[110, 97, 109, 101]⟩) Tryz.underlying9 (by decide)) schR3
  obtain ⟨W4, r4, own4, t4⟩ := own3.store law9 Tryz.underlying189 (by unfold maxLen; omega) (keyOf_string_mk (s := ⟨#[97, 117, 116, 104]⟩) Tryz.underlying9 (by decide)) schR4
  obtain ⟨v, ps, hlook, hv⟩ := own4.look_ok law9 Tryz.underlying189 (zeroS W4) schR0 (keyOf_string_mk (s := s) Tryz.underlying9 (by unfold maxLen; omega))
  have hD : (((((DataW.map []).put (.string sWorld) (.lit (.int .i64 1))).put (.string sIp) (.lit (.int .i64 2))).put (.string sName) (.lit (.int .i64 3))).put (.string sAuth) (.lit (.int .i64 4)) : DataW Unit) = schD := rfl
  obtain ⟨ha, hh⟩ := schD_at s.data.toList
  have hv2 : schR v = some (schD.atKey (.string s.data.toList) (.lit (.int .i64 0)), ps) := hv
  rw [ha] at hv2
  have hv3 := schR_inv hv2 (schNo_le _)
  subst hv3
  have hlook2 : (Instr.lookup 189 (.map (some (w.heap.size + 1))) (.string s) true).run Tryz.prog W4 = .ok (.tuple #[schV (schNo s.data.toList), .bool (decide (schNo s.data.toList ≠ 0))]) W4 := by rw [← hh]; exact hlook
  have HB4 : Below w.heap.size w W4 := below_grown (below_grown (below_grown (below_grown hW1 t1.grown (by omega)) t2.grown (by omega)) t3.grown (by omega)) t4.grown (by omega)
  have hz0 : ((w.alloc (.cells #[.nilFunc, .nilFunc, .nilFunc] 105)).alloc (.map #[] 0)).heap[w.heap.size]? = some (.cells #[.nilFunc, .nilFunc, .nilFunc] 105 (0, 0)) := (Below.heap_alloc _ _ _ (by simp)).trans (World.alloc_heap_new w _)
  have step : ∀ {A B : World}, A.heap[w.heap.size]? = some (.cells #[.nilFunc, .nilFunc, .nilFunc] 105 (0, 0)) → A.grownBy B (some (w.heap.size + 1)) → B.heap[w.heap.size]? = some (.cells #[.nilFunc, .nilFunc, .nilFunc] 105 (0, 0)) := fun h hg => (hg.block _ (Array.getElem?_eq_some_iff.1 h).1 (by simp)).trans h
  have hz4 := step (step (step (step hz0 t1.grown) t2.grown) t3.grown) t4.grown
  obtain ⟨n, hn⟩ : ∃ n, schNo s.data.toList = n := ⟨_, rfl⟩
  have hn4 : n ≤ 4 := by rw [← hn]; exact schNo_le _
  rw [hn] at hlook2 ⊢
  have HB := Lib.hid HB4
  have HZ := Lib.hid hz4
  have c0 := cell_row (k := 0) (v := .nilFunc) hz4 rfl
  have c1 := cell_row (k := 1) (v := .nilFunc) hz4 rfl
  have c2 := cell_row (k := 2) (v := .nilFunc) hz4 rfl
  have f0 := frozen_of_row W4 w.heap.size 0 _ _ hz4
  have f1 := frozen_of_row W4 w.heap.size 1 _ _ hz4
  have f2 := frozen_of_row W4 w.heap.size 2 _ _ hz4
  have hlt := (Array.getElem?_eq_some_iff.1 hz4).1
  clear own1 own2 own3 own4 t1 t2 t3 t4 hv hv2 ha hh hD hn hlook own0 HB4 kW hW1 hz0 step hz4
  simp only [schV] at r1 r2 r3 r4
  have hcat : n = 0 ∨ n = 1 ∨ n = 2 ∨ n = 3 ∨ n = 4 := by omega
  clear hn4
  rcases hcat with rfl | rfl | rfl | rfl | rfl
  · have hl : (Instr.lookup 189 (.map (some (w.heap.size + 1))) (.string s) true).run Tryz.prog W4 = .ok (.tuple #[.agg #[.nilFunc, .nilFunc, .nilFunc], .bool false]) W4 := hlook2
    clear hlook2
    go_enter Tryz.func67, Tryz.ntmps67
    go_wp2
    have hh := set3 HZ.out (x := .nilFunc) (y := .nilFunc) (z := .nilFunc)
    have hh2 := (Below.heap_alloc _ (.cells #[.nilFunc, .nilFunc, .nilFunc] 105) _ (Array.getElem?_eq_some_iff.1 hh).1).trans hh
    have d0 := cell_row (k := 0) (v := .nilFunc) hh2 rfl
    have d1 := cell_row (k := 1) (v := .nilFunc) hh2 rfl
    have d2 := cell_row (k := 2) (v := .nilFunc) hh2 rfl
    refine bodyPost_ret (v := .tuple #[.agg #[.nilFunc, .nilFunc, .nilFunc], .bool false]) (by simp [results, Tryz.results67, go_sem, d0, d1, d2]) rfl ⟨rfl, ?_⟩
    exact below_alloc (below_set3 HB.out (Nat.le_refl _)) _
  · have hl : (Instr.lookup 189 (.map (some (w.heap.size + 1))) (.string s) true).run Tryz.prog W4 = .ok (.tuple #[.agg #[fnV 98, fnV 97, .nilFunc], .bool true]) W4 := hlook2
    clear hlook2
    go_enter Tryz.func67, Tryz.ntmps67
    go_wp2
    have hh := set3 HZ.out (x := fnV 98) (y := fnV 97) (z := .nilFunc)
    have hh2 := (Below.heap_alloc _ (.cells #[fnV 98, fnV 97, .nilFunc] 105) _ (Array.getElem?_eq_some_iff.1 hh).1).trans hh
    have d0 := cell_row (k := 0) (v := fnV 98) hh2 rfl
    have d1 := cell_row (k := 1) (v := fnV 97) hh2 rfl
    have d2 := cell_row (k := 2) (v := .nilFunc) hh2 rfl
    refine bodyPost_ret (v := .tuple #[.agg #[fnV 98, fnV 97, .nilFunc], .bool true]) (by simp [results, Tryz.results67, go_sem, d0, d1, d2]) rfl ⟨rfl, ?_⟩
    exact below_alloc (below_set3 HB.out (Nat.le_refl _)) _
  · have hl : (Instr.lookup 189 (.map (some (w.heap.size + 1))) (.string s) true).run Tryz.prog W4 = .ok (.tuple #[.agg #[fnV 99, fnV 100, fnV 101], .bool true]) W4 := hlook2
    clear hlook2
    go_enter Tryz.func67, Tryz.ntmps67
    go_wp2
    have hh := set3 HZ.out (x := fnV 99) (y := fnV 100) (z := fnV 101)
    have hh2 := (Below.heap_alloc _ (.cells #[fnV 99, fnV 100, fnV 101] 105) _ (Array.getElem?_eq_some_iff.1 hh).1).trans hh
    have d0 := cell_row (k := 0) (v := fnV 99) hh2 rfl
    have d1 := cell_row (k := 1) (v := fnV 100) hh2 rfl
    have d2 := cell_row (k := 2) (v := fnV 101) hh2 rfl
    refine bodyPost_ret (v := .tuple #[.agg #[fnV 99, fnV 100, fnV 101], .bool true]) (by simp [results, Tryz.results67, go_sem, d0, d1, d2]) rfl ⟨rfl, ?_⟩
    exact below_alloc (below_set3 HB.out (Nat.le_refl _)) _
  · have hl : (Instr.lookup 189 (.map (some (w.heap.size + 1))) (.string s) true).run Tryz.prog W4 = .ok (.tuple #[.agg #[fnV 102, fnV 102, fnV 103], .bool true]) W4 := hlook2
    clear hlook2
    go_enter Tryz.func67, Tryz.ntmps67
    go_wp2
    have hh := set3 HZ.out (x := fnV 102) (y := fnV 102) (z := fnV 103)
    have hh2 := (Below.heap_alloc _ (.cells #[fnV 102, fnV 102, fnV 103] 105) _ (Array.getElem?_eq_some_iff.1 hh).1).trans hh
    have d0 := cell_row (k := 0) (v := fnV 102) hh2 rfl
    have d1 := cell_row (k := 1) (v := fnV 102) hh2 rfl
    have d2 := cell_row (k := 2) (v := fnV 103) hh2 rfl
    refine bodyPost_ret (v := .tuple #[.agg #[fnV 102, fnV 102, fnV 103], .bool true]) (by simp [results, Tryz.results67, go_sem, d0, d1, d2]) rfl ⟨rfl, ?_⟩
    exact below_alloc (below_set3 HB.out (Nat.le_refl _)) _
  · have hl : (Instr.lookup 189 (.map (some (w.heap.size + 1))) (.string s) true).run Tryz.prog W4 = .ok (.tuple #[.agg #[fnV 104, fnV 97, .nilFunc], .bool true]) W4 := hlook2
    clear hlook2
    go_enter Tryz.func67, Tryz.ntmps67
    go_wp2
    have hh := set3 HZ.out (x := fnV 104) (y := fnV 97) (z := .nilFunc)
    have hh2 := (Below.heap_alloc _ (.cells #[fnV 104, fnV 97, .nilFunc] 105) _ (Array.getElem?_eq_some_iff.1 hh).1).trans hh
    have d0 := cell_row (k := 0) (v := fnV 104) hh2 rfl
    have d1 := cell_row (k := 1) (v := fnV 97) hh2 rfl
    have d2 := cell_row (k := 2) (v := .nilFunc) hh2 rfl
    refine bodyPost_ret (v := .tuple #[.agg #[fnV 104, fnV 97, .nilFunc], .bool true]) (by simp [results, Tryz.results67, go_sem, d0, d1, d2]) rfl ⟨rfl, ?_⟩
    exact below_alloc (below_set3 HB.out (Nat.le_refl _)) _
end Go.Proofs.YtgjgafibipepeaaGreatDoor.Q
namespace Go.Proofs.YtgjgafibipepeaaGreatDoor.Q
open Go.RowKit Go.Proofs.YtgjgafibipepeaaGreatDoorW.PrintWords Go.Deep Go.Maps Go.WideShapes Go.Lib
set_option linter.unusedVariables false
set_option linter.unusedSimpArgs false
attribute [local go_sem] Oper.semAt_some

/-! IDS -/
abbrev sAnyone : List UInt8 := [97, 110, 121, 111, 110, 101]
theorem never_calls (s : ByteArray) (w : World) : Calls Tryz.prog 97 #[.string s] w fun e w' => e = .returned (.bool false) ∧ w' = w := by
  go_enter Tryz.func97, Tryz.ntmps97
  go_wp2
  go_ret
  exact ⟨rfl, rfl⟩
theorem eWorld_calls (s : ByteArray) (w : World) : Calls Tryz.prog 98 #[.string s] w fun e w' => e = .returned (.bool (s.data.toList == sAnyone)) ∧ w' = w := by
  rw [← Lib.toList_data]
  go_enter Tryz.func98, Tryz.ntmps98
  go_wp2
  go_ret
  exact ⟨by simp, rfl⟩
theorem eAuth_calls (s : ByteArray) (w : World) : Calls Tryz.prog 104 #[.string s] w fun e w' => e = .returned (.bool (s.data.toList == [])) ∧ w' = w := by
  rw [← Lib.toList_data]
  go_enter Tryz.func104, Tryz.ntmps104
  go_wp2
  go_ret
  exact ⟨by simp, rfl⟩
theorem mName_calls (s t : ByteArray) (w : World) : Calls Tryz.prog 103 #[.string s, .string t] w fun e w' => e = .returned (.bool (s.data.toList == t.data.toList)) ∧ w' = w := by
  rw [← Lib.toList_data, ← Lib.toList_data]
  go_enter Tryz.func103, Tryz.ntmps103
  go_wp2
  go_ret
  exact ⟨by simp, rfl⟩
/-- is it an id of an entry? -/
def entryN (n : Nat) (m : List UInt8) : Bool := match n with
  | 0 => false
  | 1 => m == sAnyone
  | 2 => (rangeB m).isSome
  | 3 => nameB m
  | _ => m == []
def entryB (l m : List UInt8) : Bool := entryN (schNo l) m
/-- is it an id of a client? -/
def clientN (n : Nat) (m : List UInt8) : Bool := match n with
  | 2 => (addrB m).isSome
  | 3 => nameB m
  | _ => false
def clientB (l m : List UInt8) : Bool := clientN (schNo l) m
end Go.Proofs.YtgjgafibipepeaaGreatDoor.Q
namespace Go.Proofs.YtgjgafibipepeaaGreatDoor.Q
open Go.RowKit Go.Proofs.YtgjgafibipepeaaGreatDoorW.PrintWords Go.Deep Go.Maps Go.WideShapes Go.Lib
set_option linter.unusedVariables false
set_option linter.unusedSimpArgs false
attribute [local go_sem] Oper.semAt_some

/-! IDS: WALKS -/
theorem sch_calls (n : Nat) (s : ByteArray) (w : World) (hs : s.size ≤ 536870912) (h : schNo s.data.toList = n) :
    Calls Tryz.prog 67 #[.string s] w fun e w' => e = .returned (.tuple #[schV n, .bool (decide (n ≠ 0))]) ∧ Below w.heap.size w w' := by
  subst h; exact schemeOf_calls s w hs
set_option maxRecDepth 100000 in
set_option maxHeartbeats 8000000 in
theorem entryId_calls (s m : ByteArray) (w : World) (hs : s.size ≤ 536870912) (hm : m.size ≤ 536870912) (hE : Env w) :
    Calls Tryz.prog 28 #[.agg #[.string s, .string m]] w fun e w' => e = .returned (.bool (entryB s.data.toList m.data.toList)) ∧ Below w.heap.size w w' := by
  obtain ⟨n, hn⟩ : ∃ n, schNo s.data.toList = n := ⟨_, rfl⟩
  have hcat : n = 0 ∨ n = 1 ∨ n = 2 ∨ n = 3 ∨ n = 4 := by have := schNo_le s.data.toList; omega
  unfold entryB
  rw [hn]
  have HN := Lib.hid hn
  have HB0 := Lib.hid (below_alloc (Below.refl _ w) (.cells #[.string s, .string m] 39))
  have HZ0 := Lib.hid (World.alloc_heap_new w (.cells #[.string s, .string m] 39))
  clear hn
  rcases hcat with rfl | rfl | rfl | rfl | rfl
  · have K1 := sch_calls 0 s (w.alloc (.cells #[.string s, .string m] 39)) hs HN.out
    have HK1 := Lib.hid K1
    clear K1
    go_enter Tryz.func28, Tryz.ntmps28
    go_wp2_with fail
    refine HK1.out.mono ?_
    rintro e w1 ⟨rfl, hB1⟩
    have HB1 := Lib.hid (below_step HB0.out hB1)
    have hz1 := block_of hB1 HZ0.out
    have c1 := cell_row (k := 1) (v := .string m) hz1 rfl
    have hlt := (Array.getElem?_eq_some_iff.1 hz1).1
    have HB2 := Lib.hid (below_alloc HB1.out (.cells #[.nilFunc, .nilFunc, .nilFunc] 105))
    simp only [schV]
    clear hB1 hz1
    go_wp2
    go_ret
    exact ⟨rfl, HB2.out⟩
  · have K1 := sch_calls 1 s (w.alloc (.cells #[.string s, .string m] 39)) hs HN.out
    have HK1 := Lib.hid K1
    have K2 := Lib.hid (fun W (hB : Below w.heap.size w W) => (show Calls Tryz.prog 98 #[.string m] W fun e w' => e = .returned (.bool ((m.data.toList == sAnyone))) ∧ Below W.heap.size W w' from (eWorld_calls m _).mono fun e w' h => ⟨h.1, by rw [h.2]; exact Below.refl _ _⟩))
    obtain ⟨r, hr⟩ : ∃ r, (m.data.toList == sAnyone) = r := ⟨_, rfl⟩
    have hr2 : entryN 1 m.data.toList = r := hr
    rw [hr] at K2
    rw [hr2]
    clear K1 hr hr2
    go_enter Tryz.func28, Tryz.ntmps28
    go_wp2_with fail
    refine HK1.out.mono ?_
    rintro e w1 ⟨rfl, hB1⟩
    have HB1 := Lib.hid (below_step HB0.out hB1)
    have hz1 := block_of hB1 HZ0.out
    have c1 := cell_row (k := 1) (v := .string m) hz1 rfl
    have hlt := (Array.getElem?_eq_some_iff.1 hz1).1
    have HB2 := Lib.hid (below_alloc HB1.out (.cells #[fnV 98, fnV 97, .nilFunc] 105))
    simp only [schV]
    clear hB1 hz1
    go_wp2_with fail
    refine (K2.out _ HB2.out).mono ?_
    rintro e w3 ⟨rfl, hB3⟩
    have HB3 := Lib.hid (below_step HB2.out hB3)
    clear hB3
    go_wp2
    go_ret
    exact ⟨rfl, HB3.out⟩
  · have K1 := sch_calls 2 s (w.alloc (.cells #[.string s, .string m] 39)) hs HN.out
    have HK1 := Lib.hid K1
    have K2 := Lib.hid (fun W (hB : Below w.heap.size w W) => (show Calls Tryz.prog 99 #[.string m] W fun e w' => e = .returned (.bool ((rangeB m.data.toList).isSome)) ∧ Below W.heap.size W w' from isRange_calls m _ hm (hE.below hB)))
    obtain ⟨r, hr⟩ : ∃ r, (rangeB m.data.toList).isSome = r := ⟨_, rfl⟩
    have hr2 : entryN 2 m.data.toList = r := hr
    rw [hr] at K2
    rw [hr2]
    clear K1 hr hr2
    go_enter Tryz.func28, Tryz.ntmps28
    go_wp2_with fail
    refine HK1.out.mono ?_
    rintro e w1 ⟨rfl, hB1⟩
    have HB1 := Lib.hid (below_step HB0.out hB1)
    have hz1 := block_of hB1 HZ0.out
    have c1 := cell_row (k := 1) (v := .string m) hz1 rfl
    have hlt := (Array.getElem?_eq_some_iff.1 hz1).1
    have HB2 := Lib.hid (below_alloc HB1.out (.cells #[fnV 99, fnV 100, fnV 101] 105))
    simp only [schV]
    clear hB1 hz1
    go_wp2_with fail
    refine (K2.out _ HB2.out).mono ?_
    rintro e w3 ⟨rfl, hB3⟩
    have HB3 := Lib.hid (below_step HB2.out hB3)
    clear hB3
    go_wp2
    go_ret
    exact ⟨rfl, HB3.out⟩
  · have K1 := sch_calls 3 s (w.alloc (.cells #[.string s, .string m] 39)) hs HN.out
    have HK1 := Lib.hid K1
    have K2 := Lib.hid (fun W (hB : Below w.heap.size w W) => (show Calls Tryz.prog 102 #[.string m] W fun e w' => e = .returned (.bool (nameB m.data.toList)) ∧ Below W.heap.size W w' from isName_calls m _ hm))
    obtain ⟨r, hr⟩ : ∃ r, nameB m.data.toList = r := ⟨_, rfl⟩
    have hr2 : entryN 3 m.data.toList = r := hr
    rw [hr] at K2
    rw [hr2]
    clear K1 hr hr2
    go_enter Tryz.func28, Tryz.ntmps28
    go_wp2_with fail
    refine HK1.out.mono ?_
    rintro e w1 ⟨rfl, hB1⟩
    have HB1 := Lib.hid (below_step HB0.out hB1)
    have hz1 := block_of hB1 HZ0.out
    have c1 := cell_row (k := 1) (v := .string m) hz1 rfl
    have hlt := (Array.getElem?_eq_some_iff.1 hz1).1
    have HB2 := Lib.hid (below_alloc HB1.out (.cells #[fnV 102, fnV 102, fnV 103] 105))
    simp only [schV]
    clear hB1 hz1
    go_wp2_with fail
    refine (K2.out _ HB2.out).mono ?_
    rintro e w3 ⟨rfl, hB3⟩
    have HB3 := Lib.hid (below_step HB2.out hB3)
    clear hB3
    go_wp2
    go_ret
    exact ⟨rfl, HB3.out⟩
  · have K1 := sch_calls 4 s (w.alloc (.cells #[.string s, .string m] 39)) hs HN.out
    have HK1 := Lib.hid K1
    have K2 := Lib.hid (fun W (hB : Below w.heap.size w W) => (show Calls Tryz.prog 104 #[.string m] W fun e w' => e = .returned (.bool ((m.data.toList == []))) ∧ Below W.heap.size W w' from (eAuth_calls m _).mono fun e w' h => ⟨h.1, by rw [h.2]; exact Below.refl _ _⟩))
    obtain ⟨r, hr⟩ : ∃ r, (m.data.toList == []) = r := ⟨_, rfl⟩
    have hr2 : entryN 4 m.data.toList = r := hr
    rw [hr] at K2
    rw [hr2]
    clear K1 hr hr2
    go_enter Tryz.func28, Tryz.ntmps28
    go_wp2_with fail
    refine HK1.out.mono ?_
    rintro e w1 ⟨rfl, hB1⟩
    have HB1 := Lib.hid (below_step HB0.out hB1)
    have hz1 := block_of hB1 HZ0.out
    have c1 := cell_row (k := 1) (v := .string m) hz1 rfl
    have hlt := (Array.getElem?_eq_some_iff.1 hz1).1
    have HB2 := Lib.hid (below_alloc HB1.out (.cells #[fnV 104, fnV 97, .nilFunc] 105))
    simp only [schV]
    clear hB1 hz1
    go_wp2_with fail
    refine (K2.out _ HB2.out).mono ?_
    rintro e w3 ⟨rfl, hB3⟩
    have HB3 := Lib.hid (below_step HB2.out hB3)
    clear hB3
    go_wp2
    go_ret
    exact ⟨rfl, HB3.out⟩
set_option maxRecDepth 100000 in
set_option maxHeartbeats 8000000 in
theorem clientId_calls (s m : ByteArray) (w : World) (hs : s.size ≤ 536870912) (hm : m.size ≤ 536870912) (hE : Env w) :
    Calls Tryz.prog 34 #[.agg #[.string s, .string m]] w fun e w' => e = .returned (.bool (clientB s.data.toList m.data.toList)) ∧ Below w.heap.size w w' := by
  obtain ⟨n, hn⟩ : ∃ n, schNo s.data.toList = n := ⟨_, rfl⟩
  have hcat : n = 0 ∨ n = 1 ∨ n = 2 ∨ n = 3 ∨ n = 4 := by have := schNo_le s.data.toList; omega
  unfold clientB
  rw [hn]
  have HN := Lib.hid hn
  have HB0 := Lib.hid (below_alloc (Below.refl _ w) (.cells #[.string s, .string m] 39))
  have HZ0 := Lib.hid (World.alloc_heap_new w (.cells #[.string s, .string m] 39))
  clear hn
  rcases hcat with rfl | rfl | rfl | rfl | rfl
  · have K1 := sch_calls 0 s (w.alloc (.cells #[.string s, .string m] 39)) hs HN.out
    have HK1 := Lib.hid K1
    clear K1
    go_enter Tryz.func34, Tryz.ntmps34
    go_wp2_with fail
    refine HK1.out.mono ?_
    rintro e w1 ⟨rfl, hB1⟩
    have HB1 := Lib.hid (below_step HB0.out hB1)
    have hz1 := block_of hB1 HZ0.out
    have c1 := cell_row (k := 1) (v := .string m) hz1 rfl
    have hlt := (Array.getElem?_eq_some_iff.1 hz1).1
    have HB2 := Lib.hid (below_alloc HB1.out (.cells #[.nilFunc, .nilFunc, .nilFunc] 105))
    simp only [schV]
    clear hB1 hz1
    go_wp2
    go_ret
    exact ⟨rfl, HB2.out⟩
  · have K1 := sch_calls 1 s (w.alloc (.cells #[.string s, .string m] 39)) hs HN.out
    have HK1 := Lib.hid K1
    have K2 := Lib.hid (fun W (hB : Below w.heap.size w W) => (show Calls Tryz.prog 97 #[.string m] W fun e w' => e = .returned (.bool (false)) ∧ Below W.heap.size W w' from (never_calls m _).mono fun e w' h => ⟨h.1, by rw [h.2]; exact Below.refl _ _⟩))
    obtain ⟨r, hr⟩ : ∃ r, false = r := ⟨_, rfl⟩
    have hr2 : clientN 1 m.data.toList = r := hr
    rw [hr] at K2
    rw [hr2]
    clear K1 hr hr2
    go_enter Tryz.func34, Tryz.ntmps34
    go_wp2_with fail
    refine HK1.out.mono ?_
    rintro e w1 ⟨rfl, hB1⟩
    have HB1 := Lib.hid (below_step HB0.out hB1)
    have hz1 := block_of hB1 HZ0.out
    have c1 := cell_row (k := 1) (v := .string m) hz1 rfl
    have hlt := (Array.getElem?_eq_some_iff.1 hz1).1
    have HB2 := Lib.hid (below_alloc HB1.out (.cells #[fnV 98, fnV 97, .nilFunc] 105))
    simp only [schV]
    clear hB1 hz1
    go_wp2_with fail
    refine (K2.out _ HB2.out).mono ?_
    rintro e w3 ⟨rfl, hB3⟩
    have HB3 := Lib.hid (below_step HB2.out hB3)
    clear hB3
    go_wp2
    go_ret
    exact ⟨rfl, HB3.out⟩
  · have K1 := sch_calls 2 s (w.alloc (.cells #[.string s, .string m] 39)) hs HN.out
    have HK1 := Lib.hid K1
    have K2 := Lib.hid (fun W (hB : Below w.heap.size w W) => (show Calls Tryz.prog 100 #[.string m] W fun e w' => e = .returned (.bool ((addrB m.data.toList).isSome)) ∧ Below W.heap.size W w' from isAddress_calls m _ hm (hE.below hB)))
    obtain ⟨r, hr⟩ : ∃ r, (addrB m.data.toList).isSome = r := ⟨_, rfl⟩
    have hr2 : clientN 2 m.data.toList = r := hr
    rw [hr] at K2
    rw [hr2]
    clear K1 hr hr2
    go_enter Tryz.func34, Tryz.ntmps34
    go_wp2_with fail
    refine HK1.out.mono ?_
    rintro e w1 ⟨rfl, hB1⟩
    have HB1 := Lib.hid (below_step HB0.out hB1)
    have hz1 := block_of hB1 HZ0.out
    have c1 := cell_row (k := 1) (v := .string m) hz1 rfl
    have hlt := (Array.getElem?_eq_some_iff.1 hz1).1
    have HB2 := Lib.hid (below_alloc HB1.out (.cells #[fnV 99, fnV 100, fnV 101] 105))
    simp only [schV]
    clear hB1 hz1
    go_wp2_with fail
    refine (K2.out _ HB2.out).mono ?_
    rintro e w3 ⟨rfl, hB3⟩
    have HB3 := Lib.hid (below_step HB2.out hB3)
    clear hB3
    go_wp2
    go_ret
    exact ⟨rfl, HB3.out⟩
  · have K1 := sch_calls 3 s (w.alloc (.cells #[.string s, .string m] 39)) hs HN.out
    have HK1 := Lib.hid K1
    have K2 := Lib.hid (fun W (hB : Below w.heap.size w W) => (show Calls Tryz.prog 102 #[.string m] W fun e w' => e = .returned (.bool (nameB m.data.toList)) ∧ Below W.heap.size W w' from isName_calls m _ hm))
    obtain ⟨r, hr⟩ : ∃ r, nameB m.data.toList = r := ⟨_, rfl⟩
    have hr2 : clientN 3 m.data.toList = r := hr
    rw [hr] at K2
    rw [hr2]
    clear K1 hr hr2
    go_enter Tryz.func34, Tryz.ntmps34
    go_wp2_with fail
    refine HK1.out.mono ?_
    rintro e w1 ⟨rfl, hB1⟩
    have HB1 := Lib.hid (below_step HB0.out hB1)
    have hz1 := block_of hB1 HZ0.out
    have c1 := cell_row (k := 1) (v := .string m) hz1 rfl
    have hlt := (Array.getElem?_eq_some_iff.1 hz1).1
    have HB2 := Lib.hid (below_alloc HB1.out (.cells #[fnV 102, fnV 102, fnV 103] 105))
    simp only [schV]
    clear hB1 hz1
    go_wp2_with fail
    refine (K2.out _ HB2.out).mono ?_
    rintro e w3 ⟨rfl, hB3⟩
    have HB3 := Lib.hid (below_step HB2.out hB3)
    clear hB3
    go_wp2
    go_ret
    exact ⟨rfl, HB3.out⟩
  · have K1 := sch_calls 4 s (w.alloc (.cells #[.string s, .string m] 39)) hs HN.out
    have HK1 := Lib.hid K1
    have K2 := Lib.hid (fun W (hB : Below w.heap.size w W) => (show Calls Tryz.prog 97 #[.string m] W fun e w' => e = .returned (.bool (false)) ∧ Below W.heap.size W w' from (never_calls m _).mono fun e w' h => ⟨h.1, by rw [h.2]; exact Below.refl _ _⟩))
    obtain ⟨r, hr⟩ : ∃ r, false = r := ⟨_, rfl⟩
    have hr2 : clientN 4 m.data.toList = r := hr
    rw [hr] at K2
    rw [hr2]
    clear K1 hr hr2
    go_enter Tryz.func34, Tryz.ntmps34
    go_wp2_with fail
    refine HK1.out.mono ?_
    rintro e w1 ⟨rfl, hB1⟩
    have HB1 := Lib.hid (below_step HB0.out hB1)
    have hz1 := block_of hB1 HZ0.out
    have c1 := cell_row (k := 1) (v := .string m) hz1 rfl
    have hlt := (Array.getElem?_eq_some_iff.1 hz1).1
    have HB2 := Lib.hid (below_alloc HB1.out (.cells #[fnV 104, fnV 97, .nilFunc] 105))
    simp only [schV]
    clear hB1 hz1
    go_wp2_with fail
    refine (K2.out _ HB2.out).mono ?_
    rintro e w3 ⟨rfl, hB3⟩
    have HB3 := Lib.hid (below_step HB2.out hB3)
    clear hB3
    go_wp2
    go_ret
    exact ⟨rfl, HB3.out⟩
end Go.Proofs.YtgjgafibipepeaaGreatDoor.Q
namespace Go.Proofs.YtgjgafibipepeaaGreatDoor.Q
open Go.RowKit Go.Proofs.YtgjgafibipepeaaGreatDoorW.PrintWords Go.Deep Go.Maps Go.WideShapes Go.Lib
set_option linter.unusedVariables false
set_option linter.unusedSimpArgs false
attribute [local go_sem] Oper.semAt_some

/-! WHO IS MET -/
theorem schNo_name {l : List UInt8} : (schNo l = 1 ↔ l = sWorld) ∧ (schNo l = 2 ↔ l = sIp) ∧ (schNo l = 3 ↔ l = sName) ∧ (schNo l = 4 ↔ l = sAuth) := by
  unfold schNo
  by_cases h1 : l = sWorld
  · subst h1; decide
  by_cases h2 : l = sIp
  · subst h2; decide
  by_cases h3 : l = sName
  · subst h3; decide
  by_cases h4 : l = sAuth
  · subst h4; decide
  simp [h1, h2, h3, h4]
def meetB (es em ws wm : List UInt8) : Bool := match schNo es with
  | 1 => true
  | 2 => (match schNo ws, rangeB em, addrB wm with
    | 2, some (p, n), some q => decide (agree n p q)
    | _, _, _ => false)
  | 3 => (schNo ws == 3) && (em == wm)
  | _ => false
theorem client_no {l m : List UInt8} (h : clientB l m = true) : schNo l = 2 ∨ schNo l = 3 := by
  unfold clientB clientN at h
  split at h
  · rename_i e; exact .inl e
  · rename_i e; exact .inr e
  · cases h
set_option maxRecDepth 100000 in
set_option maxHeartbeats 16000000 in
theorem meets_calls (s m t u : ByteArray) (w : World) (hs : s.size ≤ 536870912) (hm : m.size ≤ 536870912) (ht : t.size ≤ 536870912) (hu : u.size ≤ 536870912) (hE : Env w) (h1 : entryB s.data.toList m.data.toList = true) (h2 : clientB t.data.toList u.data.toList = true) :
    Calls Tryz.prog 63 #[.agg #[.string s, .string m], .agg #[.string t, .string u]] w fun e w' => e = .returned (.bool (meetB s.data.toList m.data.toList t.data.toList u.data.toList)) ∧ Below w.heap.size w w' := by
  have hk := client_no h2
  obtain ⟨r, hr⟩ : ∃ r, meetB s.data.toList m.data.toList t.data.toList u.data.toList = r := ⟨_, rfl⟩
  rw [hr]
  have HB0 := Lib.hid (below_alloc (below_alloc (Below.refl _ w) (.cells #[.string s, .string m] 39)) (.cells #[.string t, .string u] 39))
  have HZ0 := Lib.hid ((Below.heap_alloc (w.alloc (.cells #[.string s, .string m] 39)) (.cells #[.string t, .string u] 39) w.heap.size (by simp)).trans (World.alloc_heap_new w (.cells #[.string s, .string m] 39)))
  have hy0 := World.alloc_heap_new (w.alloc (.cells #[.string s, .string m] 39)) (.cells #[.string t, .string u] 39)
  rw [World.size_alloc] at hy0
  have HY0 := Lib.hid hy0
  have hL := Lib.toList_data s
  have hL2 := Lib.toList_data t
  clear hy0
  have hcat : schNo s.data.toList = 1 ∨ schNo s.data.toList = 2 ∨ schNo s.data.toList = 3 ∨ schNo s.data.toList = 4 := by
    have h5 := schNo_le s.data.toList
    have h0 : schNo s.data.toList ≠ 0 := fun e => by unfold entryB entryN at h1; rw [e] at h1; cases h1
    omega
  rcases hcat with hn | hn | hn | hn
  · have hx : r = true := by rw [← hr]; unfold meetB; rw [hn]; rfl
    subst hx
    have q1 : (s.toList == [119, 111, 114, 108, 100]) = true := by rw [hL, beq_iff_eq]; exact schNo_name.1.1 hn
    have HK1 := Lib.hid (sch_calls 1 s ((w.alloc (.cells #[.string s, .string m] 39)).alloc (.cells #[.string t, .string u] 39)) hs hn)
    clear h1 h2 hr hn hk hL hL2 hE
    go_enter Tryz.func63, Tryz.ntmps63
    go_wp2_with fail
    refine HK1.out.mono ?_
    rintro e w1 ⟨rfl, hB1⟩
    have HB1 := Lib.hid (below_step HB0.out hB1)
    have hz1 := block_of hB1 HZ0.out
    have hy1 := block_of hB1 HY0.out
    have c0 := cell_row (k := 0) (v := .string s) hz1 rfl
    have c1 := cell_row (k := 1) (v := .string m) hz1 rfl
    have d0 := cell_row (k := 0) (v := .string t) hy1 rfl
    have d1 := cell_row (k := 1) (v := .string u) hy1 rfl
    have hlt := (Array.getElem?_eq_some_iff.1 hz1).1
    have hlt2 := (Array.getElem?_eq_some_iff.1 hy1).1
    have HB2 := Lib.hid (below_alloc HB1.out (.cells #[fnV 98, fnV 97, .nilFunc] 105))
    simp only [schV]
    clear hB1 hz1 hy1
    go_wp2
    go_ret
    exact ⟨rfl, HB2.out⟩
  · have hsl := schNo_name.2.1.1 hn
    have q1 : (s.toList == [119, 111, 114, 108, 100]) = false := by rw [hL, hsl]; decide
    rcases hk with hk | hk
    · have q2 : (s.toList == t.toList) = true := by rw [hL, hL2, beq_iff_eq, hsl, schNo_name.2.1.1 hk]
      obtain ⟨⟨p, a⟩, hp⟩ : ∃ x, rangeB m.data.toList = some x := Option.isSome_iff_exists.1 (by unfold entryB entryN at h1; rw [hn] at h1; exact h1)
      obtain ⟨q, hq⟩ : ∃ x, addrB u.data.toList = some x := Option.isSome_iff_exists.1 (by unfold clientB clientN at h2; rw [hk] at h2; exact h2)
      have hx : r = decide (agree a p q) := by rw [← hr]; unfold meetB; rw [hn, hk, hp, hq]; rfl
      have K2 := Lib.hid (fun W (hB : Below w.heap.size w W) => within_calls m u p q a W hm hu (hE.below hB) hp hq)
      rw [← hx] at K2
      have HK1 := Lib.hid (sch_calls 2 s ((w.alloc (.cells #[.string s, .string m] 39)).alloc (.cells #[.string t, .string u] 39)) hs hn)
      clear h1 h2 hr hn hk hL hL2 hE hsl hp hq hx
      go_enter Tryz.func63, Tryz.ntmps63
      go_wp2_with fail
      refine HK1.out.mono ?_
      rintro e w1 ⟨rfl, hB1⟩
      have HB1 := Lib.hid (below_step HB0.out hB1)
      have hz1 := block_of hB1 HZ0.out
      have hy1 := block_of hB1 HY0.out
      have c0 := cell_row (k := 0) (v := .string s) hz1 rfl
      have c1 := cell_row (k := 1) (v := .string m) hz1 rfl
      have d0 := cell_row (k := 0) (v := .string t) hy1 rfl
      have d1 := cell_row (k := 1) (v := .string u) hy1 rfl
      have hlt := (Array.getElem?_eq_some_iff.1 hz1).1
      have hlt2 := (Array.getElem?_eq_some_iff.1 hy1).1
      have HB2 := Lib.hid (below_alloc HB1.out (.cells #[fnV 99, fnV 100, fnV 101] 105))
      simp only [schV]
      clear hB1 hz1 hy1
      go_wp2_with fail
      refine (K2.out _ HB2.out).mono ?_
      rintro e w3 ⟨rfl, hB3⟩
      have HB3 := Lib.hid (below_step HB2.out hB3)
      clear hB3
      go_wp2
      go_ret
      exact ⟨rfl, HB3.out⟩
    · have q2 : (s.toList == t.toList) = false := by rw [hL, hL2, hsl, schNo_name.2.2.1.1 hk]; decide
      have hx : r = false := by rw [← hr]; unfold meetB; rw [hn, hk]; rfl
      subst hx
      have HK1 := Lib.hid (sch_calls 2 s ((w.alloc (.cells #[.string s, .string m] 39)).alloc (.cells #[.string t, .string u] 39)) hs hn)
      clear h1 h2 hr hn hk hL hL2 hE hsl
      go_enter Tryz.func63, Tryz.ntmps63
      go_wp2_with fail
      refine HK1.out.mono ?_
      rintro e w1 ⟨rfl, hB1⟩
      have HB1 := Lib.hid (below_step HB0.out hB1)
      have hz1 := block_of hB1 HZ0.out
      have hy1 := block_of hB1 HY0.out
      have c0 := cell_row (k := 0) (v := .string s) hz1 rfl
      have c1 := cell_row (k := 1) (v := .string m) hz1 rfl
      have d0 := cell_row (k := 0) (v := .string t) hy1 rfl
      have d1 := cell_row (k := 1) (v := .string u) hy1 rfl
      have hlt := (Array.getElem?_eq_some_iff.1 hz1).1
      have hlt2 := (Array.getElem?_eq_some_iff.1 hy1).1
      have HB2 := Lib.hid (below_alloc HB1.out (.cells #[fnV 99, fnV 100, fnV 101] 105))
      simp only [schV]
      clear hB1 hz1 hy1
      go_wp2
      go_ret
      exact ⟨rfl, HB2.out⟩
  · have hsl := schNo_name.2.2.1.1 hn
    have q1 : (s.toList == [119, 111, 114, 108, 100]) = false := by rw [hL, hsl]; decide
    rcases hk with hk | hk
    · have q2 : (s.toList == t.toList) = false := by rw [hL, hL2, hsl, schNo_name.2.1.1 hk]; decide
      have hx : r = false := by rw [← hr]; unfold meetB; rw [hn, hk]; rfl
      subst hx
      have HK1 := Lib.hid (sch_calls 3 s ((w.alloc (.cells #[.string s, .string m] 39)).alloc (.cells #[.string t, .string u] 39)) hs hn)
      clear h1 h2 hr hn hk hL hL2 hE hsl
      go_enter Tryz.func63, Tryz.ntmps63
      go_wp2_with fail
      refine HK1.out.mono ?_
      rintro e w1 ⟨rfl, hB1⟩
      have HB1 := Lib.hid (below_step HB0.out hB1)
      have hz1 := block_of hB1 HZ0.out
      have hy1 := block_of hB1 HY0.out
      have c0 := cell_row (k := 0) (v := .string s) hz1 rfl
      have c1 := cell_row (k := 1) (v := .string m) hz1 rfl
      have d0 := cell_row (k := 0) (v := .string t) hy1 rfl
      have d1 := cell_row (k := 1) (v := .string u) hy1 rfl
      have hlt := (Array.getElem?_eq_some_iff.1 hz1).1
      have hlt2 := (Array.getElem?_eq_some_iff.1 hy1).1
      have HB2 := Lib.hid (below_alloc HB1.out (.cells #[fnV 102, fnV 102, fnV 103] 105))
      simp only [schV]
      clear hB1 hz1 hy1
      go_wp2
      go_ret
      exact ⟨rfl, HB2.out⟩
    · have q2 : (s.toList == t.toList) = true := by rw [hL, hL2, beq_iff_eq, hsl, schNo_name.2.2.1.1 hk]
      have hx : r = (m.data.toList == u.data.toList) := by rw [← hr]; unfold meetB; rw [hn, hk]; rfl
      have K2 := Lib.hid (fun W (hB : Below w.heap.size w W) => (mName_calls m u W).mono fun e w' (h : e = .returned (.bool (m.data.toList == u.data.toList)) ∧ w' = W) => (⟨h.1, by rw [h.2]; exact Below.refl _ _⟩ : e = .returned (.bool (m.data.toList == u.data.toList)) ∧ Below W.heap.size W w'))
      rw [← hx] at K2
      have HK1 := Lib.hid (sch_calls 3 s ((w.alloc (.cells #[.string s, .string m] 39)).alloc (.cells #[.string t, .string u] 39)) hs hn)
      clear h1 h2 hr hn hk hL hL2 hE hsl hx
      go_enter Tryz.func63, Tryz.ntmps63
      go_wp2_with fail
      refine HK1.out.mono ?_
      rintro e w1 ⟨rfl, hB1⟩
      have HB1 := Lib.hid (below_step HB0.out hB1)
      have hz1 := block_of hB1 HZ0.out
      have hy1 := block_of hB1 HY0.out
      have c0 := cell_row (k := 0) (v := .string s) hz1 rfl
      have c1 := cell_row (k := 1) (v := .string m) hz1 rfl
      have d0 := cell_row (k := 0) (v := .string t) hy1 rfl
      have d1 := cell_row (k := 1) (v := .string u) hy1 rfl
      have hlt := (Array.getElem?_eq_some_iff.1 hz1).1
      have hlt2 := (Array.getElem?_eq_some_iff.1 hy1).1
      have HB2 := Lib.hid (below_alloc HB1.out (.cells #[fnV 102, fnV 102, fnV 103] 105))
      simp only [schV]
      clear hB1 hz1 hy1
      go_wp2_with fail
      refine (K2.out _ HB2.out).mono ?_
      rintro e w3 ⟨rfl, hB3⟩
      have HB3 := Lib.hid (below_step HB2.out hB3)
      clear hB3
      go_wp2
      go_ret
      exact ⟨rfl, HB3.out⟩
  · have hsl := schNo_name.2.2.2.1 hn
    have q1 : (s.toList == [119, 111, 114, 108, 100]) = false := by rw [hL, hsl]; decide
    have q2 : (s.toList == t.toList) = false := by
      rcases hk with hk | hk
      · rw [hL, hL2, hsl, schNo_name.2.1.1 hk]; decide
      · rw [hL, hL2, hsl, schNo_name.2.2.1.1 hk]; decide
    have hx : r = false := by rw [← hr]; unfold meetB; rw [hn]; rfl
    subst hx
    have HK1 := Lib.hid (sch_calls 4 s ((w.alloc (.cells #[.string s, .string m] 39)).alloc (.cells #[.string t, .string u] 39)) hs hn)
    clear h1 h2 hr hn hk hL hL2 hE hsl
    go_enter Tryz.func63, Tryz.ntmps63
    go_wp2_with fail
    refine HK1.out.mono ?_
    rintro e w1 ⟨rfl, hB1⟩
    have HB1 := Lib.hid (below_step HB0.out hB1)
    have hz1 := block_of hB1 HZ0.out
    have hy1 := block_of hB1 HY0.out
    have c0 := cell_row (k := 0) (v := .string s) hz1 rfl
    have c1 := cell_row (k := 1) (v := .string m) hz1 rfl
    have d0 := cell_row (k := 0) (v := .string t) hy1 rfl
    have d1 := cell_row (k := 1) (v := .string u) hy1 rfl
    have hlt := (Array.getElem?_eq_some_iff.1 hz1).1
    have hlt2 := (Array.getElem?_eq_some_iff.1 hy1).1
    have HB2 := Lib.hid (below_alloc HB1.out (.cells #[fnV 104, fnV 97, .nilFunc] 105))
    simp only [schV]
    clear hB1 hz1 hy1
    go_wp2
    go_ret
    exact ⟨rfl, HB2.out⟩
end Go.Proofs.YtgjgafibipepeaaGreatDoor.Q
