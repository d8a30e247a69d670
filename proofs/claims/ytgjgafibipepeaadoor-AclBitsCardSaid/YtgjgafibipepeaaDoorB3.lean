import Derived.Test.YtgjgafibipepeaaDoorQf
import Derived.Test.YtgjgafibipepeaaDoorB2
namespace Go.Proofs.YtgjgafibipepeaaDoor.Q
open Go.RowKit Go.Proofs.YtgjgafibipepeaaDoorW.PrintWords Go.Deep Go.Maps Go.WideShapes Go.Lib
open Go.Proofs.YtgjgafibipepeaaDoor.Pr (S25 S33 k25 k33 z25 z33 rd_T25 rd_T33 lagoonlaw06_long.f lagoonlaw06_long.l0 lagoonlaw06_long.l1 lagoonlaw06_long.j1 lagoonlaw06_long.j3)
open Go.Proofs.YtgjgafibipepeaaDoor
set_option linter.unusedVariables false
set_option linter.unusedSimpArgs false
attribute [local go_sem] Oper.semAt_some
/-! LONG -/
theorem long_l1 (who : List S25) (hw : who.length ≤ 9223372036854775807) : ∀ (d i : Nat) (n : Int) (k : Nat), i + d = who.length → 2 * d + 2 ≤ k → 0 ≤ n → n ≤ 8589934592 →
    ∃ r, lagoonlaw06_long.l1 k who n i = some r ∧ (r = false → (∀ x ∈ who.drop i, smI x) ∧ n + d ≤ 1073741823) := by
  intro d
  induction d with
  | zero =>
    intro i n k hi hk h0 h1
    obtain ⟨k, rfl⟩ : ∃ j, k = j + 2 := ⟨k - 2, by omega⟩
    rw [lagoonlaw06_long.l1, if_neg (by omega), lagoonlaw06_long.j3, if_neg (by simp)]
    refine ⟨_, rfl, fun h => ?_⟩
    have := of_decide_eq_false h
    rw [List.drop_of_length_le (by omega)]
    exact ⟨fun x hx => absurd hx List.not_mem_nil, by omega⟩
  | succ d ih =>
    intro i n k hi hk h0 h1
    obtain ⟨k, rfl⟩ : ∃ j, k = j + 2 := ⟨k - 2, by omega⟩
    have hlt : i < who.length := by omega
    rw [lagoonlaw06_long.l1, if_pos (by omega), lagoonlaw06_long.j3]
    by_cases hn : n ≤ 1073741823
    · rw [if_pos (decide_eq_true hn), if_pos (by omega), if_pos (by omega)]
      have hr : rd_T25 who (i : Int) = who[i] := by simp [rd_T25, List.getD, List.getElem?_eq_getElem hlt]
      rw [hr, List.drop_eq_getElem_cons hlt]
      obtain ⟨x, hx⟩ : ∃ x, who[i] = x := ⟨_, rfl⟩
      rw [hx]
      by_cases c1 : (x.f0.size : Int) > 536870911
      · rw [if_pos c1]; exact ⟨true, rfl, fun h => by cases h⟩
      · rw [if_neg c1]
        by_cases c2 : (x.f1.size : Int) > 536870911
        · rw [if_pos c2]; exact ⟨true, rfl, fun h => by cases h⟩
        · rw [if_neg c2, w64 (x := n + 1) (by omega) (by omega), w64 (x := n + 1 + _) (by omega) (by omega), w64 (x := _ + (x.f1.size : Int)) (by omega) (by omega), w64 (x := (i : Int) + 1) (by omega) (by omega)]
          obtain ⟨r, h2, h3⟩ := ih (i + 1) (n + 1 + x.f0.size + x.f1.size) k (by omega) (by omega) (by omega) (by omega)
          refine ⟨r, by rw [← h2]; rfl, fun h => ?_⟩
          obtain ⟨h4, h5⟩ := h3 h
          refine ⟨fun y hy => ?_, by omega⟩
          rcases List.mem_cons.1 hy with rfl | hy
          · exact ⟨by omega, by omega⟩
          · exact h4 y hy
    · rw [if_neg (by rw [decide_eq_false hn]; simp)]
      refine ⟨true, by rw [decide_eq_true (by omega)], fun h => by cases h⟩
theorem long_l0 (l : List S33) (who : List S25) (hl : l.length ≤ 9223372036854775807) (hw : who.length ≤ 9223372036854775807) : ∀ (d i : Nat) (n : Int) (k : Nat), i + d = l.length → 2 * d + 2 * who.length + 4 ≤ k → 0 ≤ n → n ≤ 8589934592 →
    ∃ r, lagoonlaw06_long.l0 k l who n i = some r ∧ (r = false → (∀ x ∈ l.drop i, smE x) ∧ (∀ x ∈ who, smI x) ∧ n + d + who.length ≤ 1073741823) := by
  intro d
  induction d with
  | zero =>
    intro i n k hi hk h0 h1
    obtain ⟨k, rfl⟩ : ∃ j, k = j + 2 := ⟨k - 2, by omega⟩
    rw [lagoonlaw06_long.l0, if_neg (by omega), lagoonlaw06_long.j1, if_neg (by simp)]
    obtain ⟨r, h2, h3⟩ := long_l1 who hw who.length 0 n k (by omega) (by omega) h0 h1
    refine ⟨r, h2, fun h => ?_⟩
    obtain ⟨h4, h5⟩ := h3 h
    rw [List.drop_of_length_le (by omega)]
    exact ⟨fun x hx => absurd hx List.not_mem_nil, h4, by omega⟩
  | succ d ih =>
    intro i n k hi hk h0 h1
    obtain ⟨k, rfl⟩ : ∃ j, k = j + 2 := ⟨k - 2, by omega⟩
    have hlt : i < l.length := by omega
    rw [lagoonlaw06_long.l0, if_pos (by omega), lagoonlaw06_long.j1]
    by_cases hn : n ≤ 1073741823
    · rw [if_pos (decide_eq_true hn), if_pos (by omega), if_pos (by omega)]
      have hr : rd_T33 l (i : Int) = l[i] := by simp [rd_T33, List.getD, List.getElem?_eq_getElem hlt]
      rw [hr, List.drop_eq_getElem_cons hlt]
      obtain ⟨x, hx⟩ : ∃ x, l[i] = x := ⟨_, rfl⟩
      rw [hx]
      by_cases c1 : (x.f1.f0.size : Int) > 536870911
      · rw [if_pos c1]; exact ⟨true, rfl, fun h => by cases h⟩
      · rw [if_neg c1]
        by_cases c2 : (x.f1.f1.size : Int) > 536870911
        · rw [if_pos c2]; exact ⟨true, rfl, fun h => by cases h⟩
        · rw [if_neg c2, w64 (x := n + 1) (by omega) (by omega), w64 (x := n + 1 + _) (by omega) (by omega), w64 (x := _ + (x.f1.f1.size : Int)) (by omega) (by omega), w64 (x := (i : Int) + 1) (by omega) (by omega)]
          obtain ⟨r, h2, h3⟩ := ih (i + 1) (n + 1 + x.f1.f0.size + x.f1.f1.size) k (by omega) (by omega) (by omega) (by omega)
          refine ⟨r, by rw [← h2]; rfl, fun h => ?_⟩
          obtain ⟨h4, h5, h6⟩ := h3 h
          refine ⟨fun y hy => ?_, h5, by omega⟩
          rcases List.mem_cons.1 hy with rfl | hy
          · exact ⟨by omega, by omega⟩
          · exact h4 y hy
    · rw [if_neg (by rw [decide_eq_false hn]; simp)]
      obtain ⟨r, h2, h3⟩ := long_l1 who hw who.length 0 n k (by omega) (by omega) h0 h1
      refine ⟨r, h2, fun h => ?_⟩
      have := (h3 h).2
      omega
theorem long_f (l : List S33) (who : List S25) (hl : l.length ≤ 9223372036854775807) (hw : who.length ≤ 9223372036854775807) :
    ∃ k r, lagoonlaw06_long.f k l who = some r ∧ (r = false → (∀ x ∈ l, smE x) ∧ (∀ x ∈ who, smI x) ∧ l.length + who.length ≤ 1073741823) := by
  obtain ⟨r, h1, h2⟩ := long_l0 l who hl hw l.length 0 0 _ (by omega) (Nat.le_refl _) (by omega) (by omega)
  exact ⟨_, r, h1, fun h => by have := h2 h; exact ⟨this.1, this.2.1, by omega⟩⟩
theorem long_calls (A0 A1 : Option Addr) (c0 c1 : Nat) (l : List S33) (who : List S25) (hl : l.length ≤ 9223372036854775807) (hw : who.length ≤ 9223372036854775807) :
    ∃ r, (r = false → (∀ x ∈ l, smE x) ∧ (∀ x ∈ who, smI x) ∧ l.length + who.length ≤ 1073741823) ∧
      ∀ w, Kd.C k33 w A0 l.length l → l.length ≤ c0 → Kd.C k25 w A1 who.length who → who.length ≤ c1 → Calls Tryd.prog 9 #[.slice A0 l.length c0, .slice A1 who.length c1] w fun e w' => e = .returned (.bool r) ∧ Below w.heap.size w w' := by
  obtain ⟨k, r, h1, h2⟩ := long_f l who hl hw
  exact ⟨r, h2, fun w a b c d => (Pr.lagoonlaw06_long.calls k A0 c0 l A1 c1 who r w a b c d h1).mono fun e w' h => ⟨h.1, h.2.below⟩⟩
theorem nilC_E (w : World) : Kd.C k33 w none 0 [] := (Kd.R_reads' (Kd.R_nil k33 0 w 0 (fun _ => True))).2.2
theorem nilC_I (w : World) : Kd.C k25 w none 0 [] := (Kd.R_reads' (Kd.R_nil k25 0 w 0 (fun _ => True))).2.2
set_option maxHeartbeats 4000000 in
theorem aclMeets_calls (s m t u : ByteArray) (w : World) (hE : Env w) :
    Calls Tryd.prog 5 #[.agg #[.string s, .string m], .agg #[.string t, .string u]] w fun e w' => e = .returned (.bool true) ∧ Below w.heap.size w w' := by
  obtain ⟨W1, hW1⟩ : ∃ W, w.alloc (.cells #[.string s, .string m] 25) = W := ⟨_, rfl⟩
  obtain ⟨W2, hW2⟩ : ∃ W, W1.alloc (.cells #[.string t, .string u] 25) = W := ⟨_, rfl⟩
  obtain ⟨W3, hW3⟩ : ∃ W, W2.alloc (.cells #[.string s, .string m, .string t, .string u] 25) = W := ⟨_, rfl⟩
  have hB1 : Below w.heap.size w W1 := by rw [← hW1]; exact below_alloc (Below.refl _ w) _
  have hB2 : Below W1.heap.size W1 W2 := by rw [← hW2]; exact below_alloc (Below.refl _ W1) _
  have hB3 : Below W2.heap.size W2 W3 := by rw [← hW3]; exact below_alloc (Below.refl _ W2) _
  have hs1 : W1.heap.size = w.heap.size + 1 := by rw [← hW1]; simp
  have hs2 : W2.heap.size = w.heap.size + 1 + 1 := by rw [← hW2, ← hs1]; simp
  have hz2 : W2.heap[w.heap.size]? = some (.cells #[.string s, .string m] 25 (0, 0)) := blk_below (by rw [← hW1]; exact World.alloc_heap_new _ _) hB2
  have hy2 : W2.heap[w.heap.size + 1]? = some (.cells #[.string t, .string u] 25 (0, 0)) := by rw [← hW2, ← hs1]; exact World.alloc_heap_new _ _
  have hz := blk_below hz2 hB3
  have hy := blk_below hy2 hB3
  have a0 := cell_row (k := 0) (v := .string s) hz2 rfl
  have a1 := cell_row (k := 1) (v := .string m) hz2 rfl
  have a2 := cell_row (k := 0) (v := .string t) hy2 rfl
  have a3 := cell_row (k := 1) (v := .string u) hy2 rfl
  have r3 : Kd.R k25 25 W3 W2.heap.size (fun _ => True) (.slice (some ⟨W2.heap.size, 0, none⟩) 2 2) [⟨s, m⟩, ⟨t, u⟩] := by rw [← hW3]; exact row_lit k25 W2 W2.heap.size 25 (fun _ => True) (reps_I W2 W2.heap.size [⟨s, m⟩, ⟨t, u⟩]) trivial (Nat.le_refl _) (by simp)
  have hC := (Kd.R_reads' r3).2.2
  rw [hs2] at hC
  have HB := Lib.hid (below_step (below_step hB1 hB2) hB3)
  obtain ⟨r, hr, K⟩ := long_calls none (some ⟨w.heap.size + 1 + 1, 0, none⟩) 0 2 [] [⟨s, m⟩, ⟨t, u⟩] (by simp) (by simp)
  have K1 := Lib.hid (K W3 (nilC_E W3) (Nat.le_refl _) hC (Nat.le_refl _))
  have HZ := Lib.hid (And.intro hz hy)
  have HE := Lib.hid hE
  have HR := Lib.hid hr
  clear hC r3 K hz hy hB1 hB2 hB3 hr hE hz2 hy2
  go_enter Tryd.func5, Tryd.ntmps5
  go_wp2_with fail
  refine K1.out.mono ?_
  rintro e w4 ⟨rfl, hB4⟩
  have HB4 := Lib.hid (below_step HB.out hB4)
  clear a0 a1 a2 a3
  cases r with
  | true =>
    clear hB4 K1
    go_wp2
    go_ret
    exact ⟨rfl, HB4.out⟩
  | false =>
    have hsm := HR.out rfl
    have sx : smI ⟨s, m⟩ := hsm.2.1 _ (by simp)
    have sy : smI ⟨t, u⟩ := hsm.2.1 _ (by simp)
    have KM := Lib.hid (fun W (hB : Below w.heap.size w W) => Meets_calls s m t u W sx.1 sx.2 sy.1 sy.2 (HE.out.below hB))
    have KR := Lib.hid (fun W => Pr.lagoonref06_Meets.calls _ s m t u _ W (meets_f s m t u (Nat.le_trans sx.2 (by omega)) (Nat.le_trans sy.2 (by omega)) _ (Nat.le_refl _)))
    have KL := Lib.hid (fun W (hB : Below w.heap.size w W) => lives_calls W (HE.out.below hB))
    have hz4 := blk_below HZ.out.1 hB4
    have hy4 := blk_below HZ.out.2 hB4
    have c0 := cell_row (k := 0) (v := .string s) hz4 rfl
    have c1 := cell_row (k := 1) (v := .string m) hz4 rfl
    have d0 := cell_row (k := 0) (v := .string t) hy4 rfl
    have d1 := cell_row (k := 1) (v := .string u) hy4 rfl
    have HZ4 := Lib.hid (And.intro hz4 hy4)
    obtain ⟨b, hb⟩ : ∃ b, meetsB s.data.toList m.data.toList t.data.toList u.data.toList = b := ⟨_, rfl⟩
    rw [hb] at KM KR
    clear hB4 K1 hsm sx sy hz4 hy4 HZ HR hb hW1 hW2 hW3 hs1 hs2
    go_wp2_with fail
    refine (KM.out _ HB4.out).mono ?_
    rintro e w5 ⟨rfl, hB5⟩
    have HB5 := Lib.hid (below_step HB4.out hB5)
    have hz5 := blk_below HZ4.out.1 hB5
    have hy5 := blk_below HZ4.out.2 hB5
    have f0 := cell_row (k := 0) (v := .string s) hz5 rfl
    have f1 := cell_row (k := 1) (v := .string m) hz5 rfl
    have g0 := cell_row (k := 0) (v := .string t) hy5 rfl
    have g1 := cell_row (k := 1) (v := .string u) hy5 rfl
    clear hB5 hz5 hy5 c0 c1 d0 d1
    go_wp2_with fail
    refine (KR.out _).mono ?_
    rintro e w6 ⟨rfl, hB6⟩
    have HB6 := Lib.hid (below_step HB5.out hB6)
    clear hB6 f0 f1 g0 g1
    have e : (b == b) = true := by simp
    go_wp2_with fail
    refine (KL.out _ HB6.out).mono ?_
    rintro e w7 ⟨rfl, hB7⟩
    have HB7 := Lib.hid (below_step HB6.out hB7)
    clear hB7
    go_wp2
    go_ret
    exact ⟨rfl, HB7.out⟩
end Go.Proofs.YtgjgafibipepeaaDoor.Q
