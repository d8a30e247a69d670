import Derived.Test.YtfkbknkmanphfaaK
namespace Go.Proofs.Ytfkbknkmanphfaa.Q
open Go.RowKit Go.Proofs.YtfkbknkmanphfaaW.PrintWords Go.Sort
set_option linter.unusedVariables false
set_option linter.unusedSimpArgs false

/-! NIL ONES, AND PLAIN ONES -/
/-- no System that New made: nil, or its count is 0 -/
def Noth (w : World) (v : Value) : Prop := v = .pointer none ∨ ∃ b, v = .pointer (some ⟨b, 0, none⟩) ∧ w.cell? ⟨b, 9, none⟩ = some (.int .i64 0)
def NothA (w : World) (v : Value) : Prop := v = .pointer none ∨ ∃ b, v = .pointer (some ⟨b, 0, none⟩) ∧ w.cell? ⟨b, 0, none⟩ = some (.pointer none)
theorem Noth.below {w w' : World} {v : Value} (h : Noth w v) (hB : Below w.heap.size w w') : Noth w' v := by
  rcases h with h | ⟨b, h, hc⟩
  · exact .inl h
  · exact .inr ⟨b, h, pw_cell_below hB hc⟩
theorem NothA.below {w w' : World} {v : Value} (h : NothA w v) (hB : Below w.heap.size w w') : NothA w' v := by
  rcases h with h | ⟨b, h, hc⟩
  · exact .inl h
  · exact .inr ⟨b, h, pw_cell_below hB hc⟩
theorem zero_no (v : Value) (w : World) (h : Noth w v) :
    Calls Try.prog 33 #[v] w fun e w' => e = .returned (.bool true) ∧ w = w' := by
  have H := Lib.hid h
  rcases h with rfl | ⟨b, rfl, hc⟩
  · go_enter Try.func33, Try.ntmps33
    go_wp2
    go_ret
    exact ⟨rfl, rfl⟩
  · go_enter Try.func33, Try.ntmps33
    go_wp2
    go_ret
    exact ⟨rfl, rfl⟩
theorem newAcks_no (v : Value) (w : World) (h : Noth w v) :
    Calls Try.prog 12 #[v] w fun e w' => e = .returned (.tuple #[.pointer none, .int .i64 1]) ∧ w = w' := by
  have H := Lib.hid h
  rcases h with rfl | ⟨b, rfl, hc⟩
  · go_enter Try.func12, Try.ntmps12
    go_wp2_with (go_at_call 33; refine (zero_no _ _ H.out).mono ?_; rintro e w' ⟨rfl, rfl⟩)
    exact bodyPost_ret (v := .tuple #[.pointer none, .int .i64 1]) (by simp [results, Try.results12, go_sem]) rfl ⟨rfl, rfl⟩
  · go_enter Try.func12, Try.ntmps12
    go_wp2_with (go_at_call 33; refine (zero_no _ _ H.out).mono ?_; rintro e w' ⟨rfl, rfl⟩)
    exact bodyPost_ret (v := .tuple #[.pointer none, .int .i64 1]) (by simp [results, Try.results12, go_sem]) rfl ⟨rfl, rfl⟩
theorem size_no (v : Value) (w : World) (h : Noth w v) :
    Calls Try.prog 24 #[v] w fun e w' => e = .returned (.int .i64 0) ∧ w = w' := by
  have H := Lib.hid h
  rcases h with rfl | ⟨b, rfl, hc⟩
  · go_enter Try.func24, Try.ntmps24
    go_wp2_with (go_at_call 33; refine (zero_no _ _ H.out).mono ?_; rintro e w' ⟨rfl, rfl⟩)
    go_ret
    exact ⟨rfl, rfl⟩
  · go_enter Try.func24, Try.ntmps24
    go_wp2_with (go_at_call 33; refine (zero_no _ _ H.out).mono ?_; rintro e w' ⟨rfl, rfl⟩)
    go_ret
    exact ⟨rfl, rfl⟩
theorem is_no (v : Value) (n : Int) (hn : -128 ≤ n ∧ n ≤ 127) (w : World) (h : Noth w v) :
    Calls Try.prog 39 #[v, .int .i8 n] w fun e w' => e = .returned (.bool false) ∧ w = w' := by
  have H := Lib.hid h
  obtain ⟨hn1, hn2⟩ := hn
  by_cases h0 : 0 ≤ n
  · rcases h with rfl | ⟨b, rfl, hc⟩
    · go_enter Try.func39, Try.ntmps39
      go_wp2_with (go_at_call 24; refine (size_no _ _ H.out).mono ?_; rintro e w' ⟨rfl, rfl⟩)
      go_ret
      exact ⟨by simp; omega, rfl⟩
    · go_enter Try.func39, Try.ntmps39
      go_wp2_with (go_at_call 24; refine (size_no _ _ H.out).mono ?_; rintro e w' ⟨rfl, rfl⟩)
      go_ret
      exact ⟨by simp; omega, rfl⟩
  · rcases h with rfl | ⟨b, rfl, hc⟩
    · go_enter Try.func39, Try.ntmps39
      go_wp2
      go_ret
      exact ⟨by simp; try omega, rfl⟩
    · go_enter Try.func39, Try.ntmps39
      go_wp2
      go_ret
      exact ⟨by simp; try omega, rfl⟩
theorem counts_no (v : Value) (n : Int) (hn : -128 ≤ n ∧ n ≤ 127) (w : World) (h : Noth w v) :
    Calls Try.prog 26 #[v, .int .i8 n] w fun e w' => e = .returned (.bool false) ∧ w = w' := by
  have H := Lib.hid h
  rcases h with rfl | ⟨b, rfl, hc⟩
  · go_enter Try.func26, Try.ntmps26
    go_wp2_with (go_at_call 39; refine (is_no _ _ hn _ H.out).mono ?_; rintro e w' ⟨rfl, rfl⟩)
    go_ret
    exact ⟨rfl, rfl⟩
  · go_enter Try.func26, Try.ntmps26
    go_wp2_with (go_at_call 39; refine (is_no _ _ hn _ H.out).mono ?_; rintro e w' ⟨rfl, rfl⟩)
    go_ret
    exact ⟨rfl, rfl⟩
theorem has_no (v : Value) (s : Int) (hs : 0 ≤ s ∧ s ≤ 255) (w : World) (h : Noth w v) :
    Calls Try.prog 20 #[v, .int .u8 s] w fun e w' => e = .returned (.bool false) ∧ w = w' := by
  have H := Lib.hid h
  rcases h with rfl | ⟨b, rfl, hc⟩
  · go_enter Try.func20, Try.ntmps20
    go_wp2_with (go_at_call 33; refine (zero_no _ _ H.out).mono ?_; rintro e w' ⟨rfl, rfl⟩)
    go_ret
    exact ⟨rfl, rfl⟩
  · go_enter Try.func20, Try.ntmps20
    go_wp2_with (go_at_call 33; refine (zero_no _ _ H.out).mono ?_; rintro e w' ⟨rfl, rfl⟩)
    go_ret
    exact ⟨rfl, rfl⟩
theorem least_no (v : Value) (s : Int) (hs : 0 ≤ s ∧ s ≤ 255) (w : World) (h : Noth w v) :
    Calls Try.prog 29 #[v, .int .u8 s] w fun e w' => e = .returned (.bool false) ∧ w = w' := by
  have H := Lib.hid h
  rcases h with rfl | ⟨b, rfl, hc⟩
  · go_enter Try.func29, Try.ntmps29
    go_wp2_with (go_at_call 20; refine (has_no _ _ hs _ H.out).mono ?_; rintro e w' ⟨rfl, rfl⟩)
    go_ret
    exact ⟨rfl, rfl⟩
  · go_enter Try.func29, Try.ntmps29
    go_wp2_with (go_at_call 20; refine (has_no _ _ hs _ H.out).mono ?_; rintro e w' ⟨rfl, rfl⟩)
    go_ret
    exact ⟨rfl, rfl⟩
theorem noth_nil (w : World) : Noth w (.pointer none) := .inl rfl
theorem hasA_no (v : Value) (n : Int) (hn : -128 ≤ n ∧ n ≤ 127) (w : World) (h : NothA w v) :
    Calls Try.prog 34 #[v, .int .i8 n] w fun e w' => e = .returned (.bool false) ∧ w = w' := by
  have H := Lib.hid h
  rcases h with rfl | ⟨b, rfl, hc⟩
  · go_enter Try.func34, Try.ntmps34
    go_wp2_with (go_at_call 39; refine (is_no _ _ hn _ (noth_nil _)).mono ?_; rintro e w' ⟨rfl, rfl⟩)
    go_ret
    exact ⟨rfl, rfl⟩
  · go_enter Try.func34, Try.ntmps34
    go_wp2_with (go_at_call 39; refine (is_no _ _ hn _ (noth_nil _)).mono ?_; rintro e w' ⟨rfl, rfl⟩)
    go_ret
    exact ⟨rfl, rfl⟩
theorem putN (v : Value) (n ze zn : Int) (hn : -128 ≤ n ∧ n ≤ 127) (w : World) (h : NothA w v) :
    Calls Try.prog 14 #[v, .int .i8 n, .agg #[.int .u32 ze, .int .u32 zn]] w fun e w' => e = .returned (.int .i64 1) ∧ Below w.heap.size w w' := by
  have H := Lib.hid h
  have HB := Lib.hid (below_alloc (Below.refl w.heap.size w) (Obj.cells #[Value.int .u32 ze, Value.int .u32 zn] 44))
  have HX := Lib.hid (h.below HB.out)
  rcases h with rfl | ⟨b, rfl, hc⟩
  · go_enter Try.func14, Try.ntmps14
    go_wp2_with (go_at_call 34; refine (hasA_no _ _ hn _ HX.out).mono ?_; rintro e w' ⟨rfl, rfl⟩)
    go_ret
    exact ⟨rfl, HB.out⟩
  · go_enter Try.func14, Try.ntmps14
    go_wp2_with (go_at_call 34; refine (hasA_no _ _ hn _ HX.out).mono ?_; rintro e w' ⟨rfl, rfl⟩)
    go_ret
    exact ⟨rfl, HB.out⟩
theorem ofN (v : Value) (n : Int) (hn : -128 ≤ n ∧ n ≤ 127) (w : World) (h : NothA w v) :
    Calls Try.prog 19 #[v, .int .i8 n] w fun e w' => e = .returned (.tuple #[.agg #[.int .u32 0, .int .u32 0], .bool false]) ∧ Below w.heap.size w w' := by
  have HB := Lib.hid (below_alloc (Below.refl w.heap.size w) (Obj.cells #[Value.int .u32 0, Value.int .u32 0] 44))
  have HX := Lib.hid (h.below HB.out)
  rcases HX.out with rfl | ⟨b, rfl, hc⟩
  · go_enter Try.func19, Try.ntmps19
    go_wp2_with (go_at_call 34; refine (hasA_no _ _ hn _ HX.out).mono ?_; rintro e w' ⟨rfl, rfl⟩)
    exact bodyPost_ret (v := .tuple #[.agg #[.int .u32 0, .int .u32 0], .bool false]) (by simp [results, Try.results19, go_sem]) rfl ⟨rfl, HB.out⟩
  · go_enter Try.func19, Try.ntmps19
    go_wp2_with (go_at_call 34; refine (hasA_no _ _ hn _ HX.out).mono ?_; rintro e w' ⟨rfl, rfl⟩)
    exact bodyPost_ret (v := .tuple #[.agg #[.int .u32 0, .int .u32 0], .bool false]) (by simp [results, Try.results19, go_sem]) rfl ⟨rfl, HB.out⟩
theorem committedN (v : Value) (w : World) (h : NothA w v) :
    Calls Try.prog 16 #[v] w fun e w' => e = .returned (.tuple #[.agg #[.int .u32 0, .int .u32 0], .bool false]) ∧ Below w.heap.size w w' := by
  have HB := Lib.hid (below_alloc (Below.refl w.heap.size w) (Obj.cells #[Value.int .u32 0, Value.int .u32 0] 44))
  have HX := Lib.hid (h.below HB.out)
  rcases HX.out with rfl | ⟨b, rfl, hc⟩
  · go_enter Try.func16, Try.ntmps16
    go_wp2_with (go_at_call 33; refine (zero_no _ _ (noth_nil _)).mono ?_; rintro e w' ⟨rfl, rfl⟩)
    exact bodyPost_ret (v := .tuple #[.agg #[.int .u32 0, .int .u32 0], .bool false]) (by simp [results, Try.results16, go_sem]) rfl ⟨rfl, HB.out⟩
  · go_enter Try.func16, Try.ntmps16
    go_wp2_with (go_at_call 33; refine (zero_no _ _ (noth_nil _)).mono ?_; rintro e w' ⟨rfl, rfl⟩)
    exact bodyPost_ret (v := .tuple #[.agg #[.int .u32 0, .int .u32 0], .bool false]) (by simp [results, Try.results16, go_sem]) rfl ⟨rfl, HB.out⟩
end Go.Proofs.Ytfkbknkmanphfaa.Q
