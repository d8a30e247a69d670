import Derived.Test.YtgjgafibipepeaaDoorH
import Derived.Laws.EntriesVeiled
import Derived.Maps.OwnOps
import Derived.StringKeys
namespace Go.Proofs.YtgjgafibipepeaaDoor.Q
open Go.RowKit Go.Proofs.YtgjgafibipepeaaDoorW.PrintWords Go.Deep Go.Maps Go.WideShapes Go.Lib Go.WideMaps
set_option linter.unusedVariables false
set_option linter.unusedSimpArgs false
attribute [local go_sem] Oper.semAt_some

/-! A SCHEME -/
theorem set3 {W : World} {g : Nat} {t : TypeId} {a b c x y z : Value} (h : W.heap[g]? = some (.cells #[a, b, c] t (0, 0))) :
    (((W.setCell ⟨g, 0, none⟩ x).setCell ⟨g, 1, none⟩ y).setCell ⟨g, 2, none⟩ z).heap[g]? = some (.cells #[x, y, z] t (0, 0)) := by
  have h1 := heap_setCell_same W g 0 _ _ x h
  have h2 := heap_setCell_same _ g 1 _ _ y h1
  have h3 := heap_setCell_same _ g 2 _ _ z h2
  exact h3
theorem below_set3 {w0 W : World} {g : Nat} {x y z : Value} (hB : Below w0.heap.size w0 W) (hg : w0.heap.size ≤ g) : Below w0.heap.size w0 (((W.setCell ⟨g, 0, none⟩ x).setCell ⟨g, 1, none⟩ y).setCell ⟨g, 2, none⟩ z) :=
  ((hB.setCell (p := ⟨g, 0, none⟩) hg x).setCell (p := ⟨g, 1, none⟩) hg y).setCell (p := ⟨g, 2, none⟩) hg z
abbrev sWorld : List UInt8 := [119, 111, 114, 108, 100]
abbrev sIp : List UInt8 := [105, 112]
abbrev sName : List UInt8 := [110, 97, 109, 101]
abbrev sAuth : List UInt8 := [97, 117, 116, 104]
abbrev fnV (k : Nat) : Value := .func (.func k) #[] #[]
/-- the schemes; 0: none -/
def schV : Nat → Value
  | 0 => .agg #[.nilFunc, .nilFunc, .nilFunc]
  | 1 => .agg #[fnV 44, fnV 43, .nilFunc]
  | 2 => .agg #[fnV 45, fnV 46, fnV 47]
  | 3 => .agg #[fnV 48, fnV 48, fnV 49]
  | _ => .agg #[fnV 50, fnV 43, .nilFunc]
open Classical in
/-- how a scheme reads: by its number -/
noncomputable def schR (v : Value) : Option (DataW Unit × List MemPlace) :=
  if v = schV 0 then some (.lit (.int .i64 0), []) else if v = schV 1 then some (.lit (.int .i64 1), []) else if v = schV 2 then some (.lit (.int .i64 2), [])
  else if v = schV 3 then some (.lit (.int .i64 3), []) else if v = schV 4 then some (.lit (.int .i64 4), []) else none
theorem schR0 : schR (schV 0) = some (.lit (.int .i64 0), []) := by unfold schR; rw [if_pos rfl]
theorem schR1 : schR (schV 1) = some (.lit (.int .i64 1), []) := by unfold schR; rw [if_neg (by simp [schV]), if_pos rfl]
theorem schR2 : schR (schV 2) = some (.lit (.int .i64 2), []) := by unfold schR; rw [if_neg (by simp [schV]), if_neg (by simp [schV]), if_pos rfl]
theorem schR3 : schR (schV 3) = some (.lit (.int .i64 3), []) := by unfold schR; rw [if_neg (by simp [schV]), if_neg (by simp [schV]), if_neg (by simp [schV]), if_pos rfl]
theorem schR4 : schR (schV 4) = some (.lit (.int .i64 4), []) := by unfold schR; rw [if_neg (by simp [schV]), if_neg (by simp [schV]), if_neg (by simp [schV]), if_neg (by simp [schV]), if_pos rfl]
theorem schR_inv {v : Value} {k : Nat} {ps : List MemPlace} (h : schR v = some (.lit (.int .i64 k), ps)) (hk : k ≤ 4) : v = schV k := by
  unfold schR at h
  split at h
  · rename_i e; simp at h; have : k = 0 := by omega
    rw [this]; exact e
  · split at h
    · rename_i e; simp at h; have : k = 1 := by omega
      rw [this]; exact e
    · split at h
      · rename_i e; simp at h; have : k = 2 := by omega
        rw [this]; exact e
      · split at h
        · rename_i e; simp at h; have : k = 3 := by omega
          rw [this]; exact e
        · split at h
          · rename_i e; simp at h; have : k = 4 := by omega
            rw [this]; exact e
          · cases h
theorem below_grown {w0 A B : World} {r : Nat} (h : Below w0.heap.size w0 A) (hg : A.grownBy B (some r)) (hr : w0.heap.size ≤ r) : Below w0.heap.size w0 B :=
  ⟨hg.os.trans h.os, hg.tape.trans h.tape, hg.output.trans h.output, Nat.le_trans h.size hg.size, fun k hk => (hg.block k (Nat.lt_of_lt_of_le hk h.size) (fun e => by cases e; omega)).trans (h.block k hk)⟩
theorem zeroS (w : World) : (zeroValue 62).run Tryd.prog w = .ok (schV 0) w := by kernel_rfl
theorem law9 : Keyed Tryd.prog 9 := string_keyed Tryd.underlying9
/-- the number of a scheme's name; 0: there is none -/
def schNo (l : List UInt8) : Nat := if l = sWorld then 1 else if l = sIp then 2 else if l = sName then 3 else if l = sAuth then 4 else 0
def schD : DataW Unit := ((((DataW.map []).put (.string sWorld) (.lit (.int .i64 1))).put (.string sIp) (.lit (.int .i64 2))).put (.string sName) (.lit (.int .i64 3))).put (.string sAuth) (.lit (.int .i64 4))
theorem str_ne {a b : List UInt8} (h : a ≠ b) : Lit.string a ≠ .string b := fun e => h (by cases e; rfl)
theorem schD_at (l : List UInt8) : schD.atKey (.string l) (.lit (.int .i64 0)) = .lit (.int .i64 (schNo l)) ∧ Maps.has schD (.string l) = decide (schNo l ≠ 0) := by
  have hM : IsMap (DataW.map [] : DataW Unit) := isMap_empty
  unfold schD schNo
  by_cases h4 : l = sAuth
  · subst h4
    rw [atKey_put_same (((hM.put _ _).put _ _).put _ _) (by trivial), has_put_same (((hM.put _ _).put _ _).put _ _) (by trivial)]
    exact ⟨rfl, rfl⟩
  rw [atKey_put_other (str_ne h4), has_put_other (str_ne h4), if_neg h4]
  by_cases h3 : l = sName
  · subst h3
    rw [atKey_put_same ((hM.put _ _).put _ _) (by trivial), has_put_same ((hM.put _ _).put _ _) (by trivial)]
    exact ⟨rfl, rfl⟩
  rw [atKey_put_other (str_ne h3), has_put_other (str_ne h3), if_neg h3]
  by_cases h2 : l = sIp
  · subst h2
    rw [atKey_put_same (hM.put _ _) (by trivial), has_put_same (hM.put _ _) (by trivial)]
    exact ⟨rfl, rfl⟩
  rw [atKey_put_other (str_ne h2), has_put_other (str_ne h2), if_neg h2]
  by_cases h1 : l = sWorld
  · subst h1
    rw [atKey_put_same hM (by trivial), has_put_same hM (by trivial)]
    exact ⟨rfl, rfl⟩
  rw [atKey_put_other (str_ne h1), has_put_other (str_ne h1), if_neg h1]
  exact ⟨rfl, rfl⟩
theorem schNo_le (l : List UInt8) : schNo l ≤ 4 := by
  unfold schNo
  repeat' split
  all_goals omega
set_option maxRecDepth 100000 in
set_option maxHeartbeats 8000000 in
theorem schemeOf_calls (s : ByteArray) (w : World) (hs : s.size ≤ 536870912) :
    Calls Tryd.prog 36 #[.string s] w fun e w' => e = .returned (.tuple #[schV (schNo s.data.toList), .bool (decide (schNo s.data.toList ≠ 0))]) ∧ Below w.heap.size w w' := by
  have hmm := @run_makeMap Tryd.prog
  have hW1 : Below w.heap.size w ((w.alloc (.cells #[.nilFunc, .nilFunc, .nilFunc] 62)).alloc (.map #[] 0)) := below_alloc (below_alloc (Below.refl _ w) _) _
  have own0 := World.ownsMap_made (H := Unit) (w.alloc (.cells #[.nilFunc, .nilFunc, .nilFunc] 62)) Tryd.prog 9 schR
  rw [World.size_alloc] at own0
  have kW : keyOf Tryd.prog 9 (.string ⟨#[119, 111, 114, 108, 100]⟩) = some (.string sWorld) := keyOf_string_mk Tryd.underlying9 (by decide)
  obtain ⟨W1, r1, own1, t1⟩ := own0.store law9 Tryd.underlying70 (by unfold maxLen; omega) kW schR1
  obtain ⟨W2, r2, own2, t2⟩ := own1.store law9 Tryd.underlying70 (by unfold maxLen; omega) (keyOf_string_mk (s := ⟨#[105, 112]⟩) Tryd.underlying9 (by decide)) schR2
  obtain ⟨W3, r3, own3, t3⟩ := own2.store law9 Tryd.underlying70 (by unfold maxLen; omega) (keyOf_string_mk (s := ⟨#[110, 97, 109, 101]⟩) Tryd.underlying9 (by decide)) schR3
  obtain ⟨W4, r4, own4, t4⟩ := own3.store law9 Tryd.underlying70 (by unfold maxLen; omega) (keyOf_string_mk (s := ⟨#[97, 117, 116, 104]⟩) Tryd.underlying9 (by decide)) schR4
  obtain ⟨v, ps, hlook, hv⟩ := own4.look_ok law9 Tryd.underlying70 (zeroS W4) schR0 (keyOf_string_mk (s := s) Tryd.underlying9 (by unfold maxLen; omega))
  have hD : (((((DataW.map []).put (.string sWorld) (.lit (.int .i64 1))).put (.string sIp) (.lit (.int .i64 2))).put (.string sName) (.lit (.int .i64 3))).put (.string sAuth) (.lit (.int .i64 4)) : DataW Unit) = schD := rfl
  obtain ⟨ha, hh⟩ := schD_at s.data.toList
  have hv2 : schR v = some (schD.atKey (.string s.data.toList) (.lit (.int .i64 0)), ps) := hv
  rw [ha] at hv2
  have hv3 := schR_inv hv2 (schNo_le _)
  subst hv3
  have hlook2 : (Instr.lookup 70 (.map (some (w.heap.size + 1))) (.string s) true).run Tryd.prog W4 = .ok (.tuple #[schV (schNo s.data.toList), .bool (decide (schNo s.data.toList ≠ 0))]) W4 := by rw [← hh]; exact hlook
  have HB4 : Below w.heap.size w W4 := below_grown (below_grown (below_grown (below_grown hW1 t1.grown (by omega)) t2.grown (by omega)) t3.grown (by omega)) t4.grown (by omega)
  have hz0 : ((w.alloc (.cells #[.nilFunc, .nilFunc, .nilFunc] 62)).alloc (.map #[] 0)).heap[w.heap.size]? = some (.cells #[.nilFunc, .nilFunc, .nilFunc] 62 (0, 0)) := (Below.heap_alloc _ _ _ (by simp)).trans (World.alloc_heap_new w _)
  have step : ∀ {A B : World}, A.heap[w.heap.size]? = some (.cells #[.nilFunc, .nilFunc, .nilFunc] 62 (0, 0)) → A.grownBy B (some (w.heap.size + 1)) → B.heap[w.heap.size]? = some (.cells #[.nilFunc, .nilFunc, .nilFunc] 62 (0, 0)) := fun h hg => (hg.block _ (Array.getElem?_eq_some_iff.1 h).1 (by simp)).trans h
  have hz4 := step (step (step (step hz0 t1.grown) t2.grown) t3.grown) t4.grown
  obtain ⟨n, hn⟩ : ∃ n, schNo s.data.toList = n := ⟨_, rfl⟩
  have hn4 : n ≤ 4 := by rw [← hn]; exact schNo_le _
  rw [hn] at hlook2 ⊢
  have HB := Lib.hid HB4
  have HZ := Lib.hid hz4
  have c0 := cell_row (k := 0) (v := .nilFunc) hz4 rfl
  have c1 := cell_row (k := 1) (v := .nilFunc) hz4 rfl
  have c2 := cell_row (k := 2) (v := .nilFunc) hz4 rfl
  have f0 := frozen_of_row W4 w.heap.size 0 _ _ hz4
  have f1 := frozen_of_row W4 w.heap.size 1 _ _ hz4
  have f2 := frozen_of_row W4 w.heap.size 2 _ _ hz4
  have hlt := (Array.getElem?_eq_some_iff.1 hz4).1
  clear own1 own2 own3 own4 t1 t2 t3 t4 hv hv2 ha hh hD hn hlook own0 HB4 kW hW1 hz0 step hz4
  simp only [schV] at r1 r2 r3 r4
  have hcat : n = 0 ∨ n = 1 ∨ n = 2 ∨ n = 3 ∨ n = 4 := by omega
  clear hn4
  rcases hcat with rfl | rfl | rfl | rfl | rfl
  · have hl : (Instr.lookup 70 (.map (some (w.heap.size + 1))) (.string s) true).run Tryd.prog W4 = .ok (.tuple #[.agg #[.nilFunc, .nilFunc, .nilFunc], .bool false]) W4 := hlook2
    clear hlook2
    go_enter Tryd.func36, Tryd.ntmps36
    go_wp2
    have hh := set3 HZ.out (x := .nilFunc) (y := .nilFunc) (z := .nilFunc)
    have hh2 := (Below.heap_alloc _ (.cells #[.nilFunc, .nilFunc, .nilFunc] 62) _ (Array.getElem?_eq_some_iff.1 hh).1).trans hh
    have d0 := cell_row (k := 0) (v := .nilFunc) hh2 rfl
    have d1 := cell_row (k := 1) (v := .nilFunc) hh2 rfl
    have d2 := cell_row (k := 2) (v := .nilFunc) hh2 rfl
    refine bodyPost_ret (v := .tuple #[.agg #[.nilFunc, .nilFunc, .nilFunc], .bool false]) (by simp [results, Tryd.results36, go_sem, d0, d1, d2]) rfl ⟨rfl, ?_⟩
    exact below_alloc (below_set3 HB.out (Nat.le_refl _)) _
  · have hl : (Instr.lookup 70 (.map (some (w.heap.size + 1))) (.string s) true).run Tryd.prog W4 = .ok (.tuple #[.agg #[fnV 44, fnV 43, .nilFunc], .bool true]) W4 := hlook2
    clear hlook2
    go_enter Tryd.func36, Tryd.ntmps36
    go_wp2
    have hh := set3 HZ.out (x := fnV 44) (y := fnV 43) (z := .nilFunc)
    have hh2 := (Below.heap_alloc _ (.cells #[fnV 44, fnV 43, .nilFunc] 62) _ (Array.getElem?_eq_some_iff.1 hh).1).trans hh
    have d0 := cell_row (k := 0) (v := fnV 44) hh2 rfl
    have d1 := cell_row (k := 1) (v := fnV 43) hh2 rfl
    have d2 := cell_row (k := 2) (v := .nilFunc) hh2 rfl
    refine bodyPost_ret (v := .tuple #[.agg #[fnV 44, fnV 43, .nilFunc], .bool true]) (by simp [results, Tryd.results36, go_sem, d0, d1, d2]) rfl ⟨rfl, ?_⟩
    exact below_alloc (below_set3 HB.out (Nat.le_refl _)) _
  · have hl : (Instr.lookup 70 (.map (some (w.heap.size + 1))) (.string s) true).run Tryd.prog W4 = .ok (.tuple #[.agg #[fnV 45, fnV 46, fnV 47], .bool true]) W4 := hlook2
    clear hlook2
    go_enter Tryd.func36, Tryd.ntmps36
    go_wp2
    have hh := set3 HZ.out (x := fnV 45) (y := fnV 46) (z := fnV 47)
    have hh2 := (Below.heap_alloc _ (.cells #[fnV 45, fnV 46, fnV 47] 62) _ (Array.getElem?_eq_some_iff.1 hh).1).trans hh
    have d0 := cell_row (k := 0) (v := fnV 45) hh2 rfl
    have d1 := cell_row (k := 1) (v := fnV 46) hh2 rfl
    have d2 := cell_row (k := 2) (v := fnV 47) hh2 rfl
    refine bodyPost_ret (v := .tuple #[.agg #[fnV 45, fnV 46, fnV 47], .bool true]) (by simp [results, Tryd.results36, go_sem, d0, d1, d2]) rfl ⟨rfl, ?_⟩
    exact below_alloc (below_set3 HB.out (Nat.le_refl _)) _
  · have hl : (Instr.lookup 70 (.map (some (w.heap.size + 1))) (.string s) true).run Tryd.prog W4 = .ok (.tuple #[.agg #[fnV 48, fnV 48, fnV 49], .bool true]) W4 := hlook2
    clear hlook2
    go_enter Tryd.func36, Tryd.ntmps36
    go_wp2
    have hh := set3 HZ.out (x := fnV 48) (y := fnV 48) (z := fnV 49)
    have hh2 := (Below.heap_alloc _ (.cells #[fnV 48, fnV 48, fnV 49] 62) _ (Array.getElem?_eq_some_iff.1 hh).1).trans hh
    have d0 := cell_row (k := 0) (v := fnV 48) hh2 rfl
    have d1 := cell_row (k := 1) (v := fnV 48) hh2 rfl
    have d2 := cell_row (k := 2) (v := fnV 49) hh2 rfl
    refine bodyPost_ret (v := .tuple #[.agg #[fnV 48, fnV 48, fnV 49], .bool true]) (by simp [results, Tryd.results36, go_sem, d0, d1, d2]) rfl ⟨rfl, ?_⟩
    exact below_alloc (below_set3 HB.out (Nat.le_refl _)) _
  · have hl : (Instr.lookup 70 (.map (some (w.heap.size + 1))) (.string s) true).run Tryd.prog W4 = .ok (.tuple #[.agg #[fnV 50, fnV 43, .nilFunc], .bool true]) W4 := hlook2
    clear hlook2
    go_enter Tryd.func36, Tryd.ntmps36
    go_wp2
    have hh := set3 HZ.out (x := fnV 50) (y := fnV 43) (z := .nilFunc)
    have hh2 := (Below.heap_alloc _ (.cells #[fnV 50, fnV 43, .nilFunc] 62) _ (Array.getElem?_eq_some_iff.1 hh).1).trans hh
    have d0 := cell_row (k := 0) (v := fnV 50) hh2 rfl
    have d1 := cell_row (k := 1) (v := fnV 43) hh2 rfl
    have d2 := cell_row (k := 2) (v := .nilFunc) hh2 rfl
    refine bodyPost_ret (v := .tuple #[.agg #[fnV 50, fnV 43, .nilFunc], .bool true]) (by simp [results, Tryd.results36, go_sem, d0, d1, d2]) rfl ⟨rfl, ?_⟩
    exact below_alloc (below_set3 HB.out (Nat.le_refl _)) _
end Go.Proofs.YtgjgafibipepeaaDoor.Q
