import Derived.Test.YtgjgafibipepeaaDoorM
namespace Go.Proofs.YtgjgafibipepeaaDoor.Q
open Go.RowKit Go.Proofs.YtgjgafibipepeaaDoorW.PrintWords Go.Deep Go.Maps Go.WideShapes Go.Lib
set_option linter.unusedVariables false
set_option linter.unusedSimpArgs false
attribute [local go_sem] Oper.semAt_some

theorem quadT_B (q : Quad) : B (decDigits q.1) ++ ⟨#[46]⟩ ++ B (decDigits q.2.1) ++ ⟨#[46]⟩ ++ B (decDigits q.2.2.1) ++ ⟨#[46]⟩ ++ B (decDigits q.2.2.2) = B (quadT q) := by
  show B (decDigits q.1) ++ B [46] ++ B (decDigits q.2.1) ++ B [46] ++ B (decDigits q.2.2.1) ++ B [46] ++ B (decDigits q.2.2.2) = B (quadT q)
  simp only [B_append, quadT, List.append_assoc, List.cons_append, List.nil_append]
set_option maxRecDepth 100000 in
set_option maxHeartbeats 8000000 in
theorem lText_calls (q : Quad) (w : World) (hq : small q) : Calls Tryd.prog 6 #[quadV q] w fun e w' => e = .returned (.string (B (quadT q))) ∧ Below w.heap.size w w' := by
  have HT := Lib.hid (quadT_B q)
  obtain ⟨a, b, c, d⟩ := q
  obtain ⟨h1, h2, h3, h4⟩ := hq
  simp only at h1 h2 h3 h4
  have KN := Lib.hid (fun (n : Nat) (h : n ≤ 255) W => lNumber_calls n W h)
  have l1 : (B (decDigits a)).size ≤ 3 := by rw [B_size]; exact dec_len h1
  have l2 : (B (decDigits b)).size ≤ 3 := by rw [B_size]; exact dec_len h2
  have l3 : (B (decDigits c)).size ≤ 3 := by rw [B_size]; exact dec_len h3
  have l4 : (B (decDigits d)).size ≤ 3 := by rw [B_size]; exact dec_len h4
  obtain ⟨W0, hW0⟩ : ∃ V, w.alloc (.cells #[.int .u8 a, .int .u8 b, .int .u8 c, .int .u8 d] 22) = V := ⟨_, rfl⟩
  have hB0 : Below w.heap.size w W0 := hW0 ▸ below_alloc (Below.refl _ w) _
  have hq0 : W0.heap[w.heap.size]? = some (.cells #[.int .u8 a, .int .u8 b, .int .u8 c, .int .u8 d] 22 (0, 0)) := hW0 ▸ World.alloc_heap_new w _
  have HB0 := Lib.hid hB0
  have k1 : ∀ dd os, Calls Tryd.prog 8 #[.int .i64 a] (Go.Sort.grow (redrawn W0 dd) os) fun e w'' => e = .returned (.string (B (decDigits a))) ∧ ∃ p : Regrown, w'' = Go.Sort.grow (redrawn W0 p.d) p.os := fun dd os => Calls.regrown_of (KN.out a h1 _)
  have k2 : ∀ dd os, Calls Tryd.prog 8 #[.int .i64 b] (Go.Sort.grow (redrawn W0 dd) os) fun e w'' => e = .returned (.string (B (decDigits b))) ∧ ∃ p : Regrown, w'' = Go.Sort.grow (redrawn W0 p.d) p.os := fun dd os => Calls.regrown_of (KN.out b h2 _)
  have k3 : ∀ dd os, Calls Tryd.prog 8 #[.int .i64 c] (Go.Sort.grow (redrawn W0 dd) os) fun e w'' => e = .returned (.string (B (decDigits c))) ∧ ∃ p : Regrown, w'' = Go.Sort.grow (redrawn W0 p.d) p.os := fun dd os => Calls.regrown_of (KN.out c h3 _)
  have k4 : ∀ dd os, Calls Tryd.prog 8 #[.int .i64 d] (Go.Sort.grow (redrawn W0 dd) os) fun e w'' => e = .returned (.string (B (decDigits d))) ∧ ∃ p : Regrown, w'' = Go.Sort.grow (redrawn W0 p.d) p.os := fun dd os => Calls.regrown_of (KN.out d h4 _)
  simp only at HT
  obtain ⟨b1, e1⟩ : ∃ x, B (decDigits a) = x := ⟨_, rfl⟩
  obtain ⟨b2, e2⟩ : ∃ x, B (decDigits b) = x := ⟨_, rfl⟩
  obtain ⟨b3, e3⟩ : ∃ x, B (decDigits c) = x := ⟨_, rfl⟩
  obtain ⟨b4, e4⟩ : ∃ x, B (decDigits d) = x := ⟨_, rfl⟩
  rw [e1] at l1 k1 HT
  rw [e2] at l2 k2 HT
  rw [e3] at l3 k3 HT
  rw [e4] at l4 k4 HT
  obtain ⟨R, hR⟩ : ∃ R, B (quadT (a, b, c, d)) = R := ⟨_, rfl⟩
  rw [hR] at HT ⊢
  have y0 := cell_regrown (cell_row (k := 0) (v := .int .u8 a) hq0 rfl)
  have y1 := cell_regrown (cell_row (k := 1) (v := .int .u8 b) hq0 rfl)
  have y2 := cell_regrown (cell_row (k := 2) (v := .int .u8 c) hq0 rfl)
  have y3 := cell_regrown (cell_row (k := 3) (v := .int .u8 d) hq0 rfl)
  have hd : (⟨#[46]⟩ : ByteArray).size = 1 := rfl
  have s1 : (b1 ++ ⟨#[46]⟩).size ≤ 4 := by rw [ByteArray.size_append]; omega
  have s2 : (b1 ++ ⟨#[46]⟩ ++ b2).size ≤ 7 := by rw [ByteArray.size_append]; omega
  have s3 : (b1 ++ ⟨#[46]⟩ ++ b2 ++ ⟨#[46]⟩).size ≤ 8 := by rw [ByteArray.size_append]; omega
  have s4 : (b1 ++ ⟨#[46]⟩ ++ b2 ++ ⟨#[46]⟩ ++ b3).size ≤ 11 := by rw [ByteArray.size_append]; omega
  have s5 : (b1 ++ ⟨#[46]⟩ ++ b2 ++ ⟨#[46]⟩ ++ b3 ++ ⟨#[46]⟩).size ≤ 12 := by rw [ByteArray.size_append]; omega
  have n1 : (0 : Int) ≤ (a : Int) ∧ (a : Int) ≤ 255 := by omega
  have n2 : (0 : Int) ≤ (b : Int) ∧ (b : Int) ≤ 255 := by omega
  have n3 : (0 : Int) ≤ (c : Int) ∧ (c : Int) ≤ 255 := by omega
  have n4 : (0 : Int) ≤ (d : Int) ∧ (d : Int) ≤ 255 := by omega
  clear e1 e2 e3 e4 hR hB0 hq0 hd
  unfold quadV byteV
  go_enter Tryd.func6, Tryd.ntmps6
  go_wp2_with fail
  clear hW0
  refine wp_region_quiet_below (by kernel_rfl) (by kernel_rfl) ?_
  repeat (go_big_quiet_step (first | (with_reducible exact k1 _ _) | (with_reducible exact k2 _ _) | (with_reducible exact k3 _ _) | (with_reducible exact k4 _ _)))
  refine wpQuiet_nil ?_
  intro _ hw'
  obtain ⟨⟨dq, osq⟩, hw''⟩ := hw'
  subst hw''
  have HB4 := Lib.hid (below_step HB0.out (below_regrown W0 dq osq))
  generalize Go.Sort.grow (redrawn W0 dq) osq = W4 at *
  clear y0 y1 y2 y3 k1 k2 k3 k4
  go_wp2
  go_ret
  exact ⟨by rw [← HT.out]; rfl, HB4.out⟩
end Go.Proofs.YtgjgafibipepeaaDoor.Q
