import Derived.Test.YtcilfjmiiodfgaaDoorR2
import Derived.Lib.SmallJoins
import Derived.Lib.QuietBelow
namespace Go.Proofs.YtcilfjmiiodfgaaDoor.Q
open Go.RowKit Go.Shelf Go.Proofs.YtcilfjmiiodfgaaDoorW.PrintWords Go.Proofs.YtcilfjmiiodfgaaDoor.Pr
set_option linter.unusedVariables false
set_option linter.unusedSimpArgs false
attribute [local go_sem] Oper.semAt_some

/-! A NUMBER AS TEXT -/
/-- the low k digits of u, the highest ahead -/
def dgs : Nat → Nat → List UInt8
  | 0, _ => []
  | k + 1, u => dgs k (u / 10) ++ [UInt8.ofNat (48 + u % 10)]
theorem dgs_length : ∀ k u, (dgs k u).length = k
  | 0, _ => rfl
  | k + 1, u => by simp [dgs, dgs_length k]
theorem dgs_zero : ∀ k, dgs k 0 = List.replicate k 48
  | 0 => rfl
  | k + 1 => by
    rw [dgs, show 0 / 10 = 0 by rfl, dgs_zero k, List.replicate_succ']; rfl
theorem dgs_dec : ∀ (k u : Nat), Lib.nDigits u ≤ k → dgs k u = List.replicate (k - Lib.nDigits u) 48 ++ Lib.decDigits u := by
  intro k
  induction k with
  | zero => intro u h; have := Lib.nDigits_pos u; omega
  | succ k ih =>
    intro u h
    by_cases hs : u < 10
    · rw [dgs, show u / 10 = 0 by omega, dgs_zero, Lib.nDigits_small hs, Lib.decDigits_one hs, show u % 10 = u by omega]; rfl
    · rw [dgs, Lib.nDigits_big hs, Lib.decDigits, dif_neg hs, ih (u / 10) (by have := Lib.nDigits_big hs; omega), show k + 1 - (Lib.nDigits (u / 10) + 1) = k - Lib.nDigits (u / 10) by omega, List.append_assoc]
/-- the text of a number in a path -/
def numT (n : Int) : List UInt8 := if n < 0 then 45 :: dgs (max 9 (Lib.nDigits n.natAbs)) n.natAbs else dgs (max 10 (Lib.nDigits n.natAbs)) n.natAbs
def numB (n : Int) : ByteArray := ⟨(numT n).toArray⟩
noncomputable def seqP (p : ByteArray) (n : Int) : ByteArray × Nat := if isP (p ++ numB n) = true then (p ++ numB n, 0) else (empty, 50)
theorem nDigits_le {u : Nat} (h : u ≤ 2147483648) : Lib.nDigits u ≤ 10 := by
  have h2 : u < 10 ^ 10 := by omega
  clear h
  suffices ∀ k u, u < 10 ^ (k + 1) → Lib.nDigits u ≤ k + 1 from this 9 u h2
  intro k
  induction k with
  | zero => intro u h; rw [Lib.nDigits_small (by simpa using h)]; exact Nat.le_refl _
  | succ k ih =>
    intro u h
    by_cases hs : u < 10
    · rw [Lib.nDigits_small hs]; omega
    · rw [Lib.nDigits_big hs]
      have := ih (u / 10) (by rw [Nat.pow_succ] at h; omega)
      omega
theorem bs_append (a b : List UInt8) : (⟨a.toArray⟩ : ByteArray) ++ ⟨b.toArray⟩ = ⟨(a ++ b).toArray⟩ := by
  apply toList_inj
  rw [Lib.toList_data, Lib.toList_data]
  simp [ByteArray.data_append]
theorem bs_size (l : List UInt8) : (⟨l.toArray⟩ : ByteArray).size = l.length := by simp [ByteArray.size]
theorem numT_size {n : Int} (h0 : -2147483648 ≤ n) (h1 : n ≤ 2147483647) : (numT n).length ≤ 11 := by
  unfold numT
  have := nDigits_le (u := n.natAbs) (by omega)
  split
  · simp [dgs_length]; omega
  · simp [dgs_length]; omega
/-- the three parts, no number below zero -/
theorem numB_pos {n : Int} (h : ¬ n < 0) (h1 : n ≤ 2147483647) : (⟨(Lib.repeatL [48] (10 - (Lib.itoa n).length)).toArray⟩ : ByteArray) ++ ⟨(Lib.itoa n).toArray⟩ = numB n := by
  obtain ⟨m, rfl⟩ : ∃ m : Nat, n = m := ⟨n.toNat, by omega⟩
  have hd := nDigits_le (u := m) (by omega)
  rw [Lib.itoa_nonneg, bs_append]
  unfold numB numT
  rw [if_neg h, Lib.decDigits_length, show Int.natAbs (m : Int) = m by omega, Nat.max_eq_left hd, dgs_dec 10 m hd]
  congr 2
  rw [show ([48] : List UInt8) = List.replicate 1 48 by rfl, Lib.repeatL_replicate, Nat.mul_one]
theorem numB_neg {n : Int} (h : n < 0) (h0 : -2147483648 ≤ n) : (⟨#[45]⟩ : ByteArray) ++ (⟨(Lib.repeatL [48] (9 - (Lib.decDigits n.natAbs).length)).toArray⟩ : ByteArray) ++ ⟨(Lib.decDigits n.natAbs).toArray⟩ = numB n := by
  have hd := nDigits_le (u := n.natAbs) (by omega)
  have : (⟨#[45]⟩ : ByteArray) = ⟨([45] : List UInt8).toArray⟩ := rfl
  rw [this, bs_append, bs_append]
  unfold numB numT
  rw [if_pos h, Lib.decDigits_length, dgs_dec (max 9 (Lib.nDigits n.natAbs)) _ (Nat.le_max_right _ _)]
  congr 2
  rw [show ([48] : List UInt8) = List.replicate 1 48 by rfl, Lib.repeatL_replicate, Nat.mul_one, show max 9 (Lib.nDigits n.natAbs) - Lib.nDigits n.natAbs = 9 - Lib.nDigits n.natAbs by omega]
  rfl
def Pows (w : World) : Prop := Lib.TabIs Tryd.prog w "internal/strconv.uint64pow10" .u64 Lib.pow10Tab
theorem pows_from {w0 w' : World} (h : Pows w0) (hb : Below w0.heap.size w0 w') : Pows w' := Joins.tab_stays (show Tryd.prog.globalNamed "internal/strconv.uint64pow10" = some (Option.get (Tryd.prog.globalNamed "internal/strconv.uint64pow10") (by kernel_rfl)) by kernel_rfl) h hb (Nat.le_refl _)
theorem itoa_calls (n : Int) (w : World) (h0 : -2147483648 ≤ n) (h1 : n ≤ 2147483647) (hP : Pows w) : Calls Tryd.prog 41 #[.int .i64 n] w fun e w' => e = .returned (.string ⟨(Lib.itoa n).toArray⟩) ∧ Below w.heap.size w w' :=
  (Tryd.strconv_Itoa n (by omega) (by omega) w hP).mono fun e w' h => ⟨h.1, by obtain ⟨k, os, rfl⟩ := h.2; exact below_step (Drawn0.mk ⟨k, rfl⟩).below (below_regrown (w.drewN k) (w.drewN k).drawn os)⟩
theorem zeros_calls (c : Int) (w : World) (h0 : 0 ≤ c) (h1 : c ≤ 11) : Calls Tryd.prog 42 #[.string ⟨#[48]⟩, .int .i64 c] w fun e w' => e = .returned (.string ⟨(Lib.repeatL [48] c.toNat).toArray⟩) ∧ Below w.heap.size w w' := by
  obtain ⟨m, rfl⟩ : ∃ m : Nat, c = m := ⟨c.toNat, by omega⟩
  have hz : (⟨#[48]⟩ : ByteArray).size = 1 := rfl
  exact Tryd.strings_Repeat ⟨#[48]⟩ m w (by omega) (by rw [hz]; omega)
def SeqPost (p : ByteArray) (n : Int) (w : World) (e : Ending) (w' : World) : Prop := e = .returned (.tuple #[.string (seqP p n).1, .int .i64 ((seqP p n).2 : Nat)]) ∧ Below w.heap.size w w'
set_option maxHeartbeats 8000000 in
theorem seq_pos (p : ByteArray) (n : Int) (w : World) (hs : p.size ≤ 2147483636) (hn : ¬ n < 0) (h1 : n ≤ 2147483647) (hT : Tabs w) (hP : Pows w) : Calls Tryd.prog 28 #[.string p, .int .i32 n] w (SeqPost p n w) := by
  have hlen : (Lib.itoa n).length ≤ 10 := by
    obtain ⟨m, rfl⟩ : ∃ m : Nat, n = m := ⟨n.toNat, by omega⟩
    rw [Lib.itoa_nonneg, Lib.decDigits_length]; exact nDigits_le (by omega)
  have hB := numB_pos hn h1
  have hsz := numT_size (n := n) (by omega) h1
  have K1 := Lib.hid (itoa_calls n w (by omega) h1 hP)
  obtain ⟨d, hd⟩ : ∃ d : ByteArray, (⟨(Lib.itoa n).toArray⟩ : ByteArray) = d := ⟨_, rfl⟩
  have hds : d.size ≤ 10 := by rw [← hd, bs_size]; exact hlen
  have hdl : (Lib.itoa n).length = d.size := by rw [← hd, bs_size]
  rw [hd] at K1 hB
  rw [hdl] at hB
  have K2 := Lib.hid (fun w => zeros_calls (max 0 (10 - (d.size : Int))) w (by omega) (by omega))
  obtain ⟨z, hz⟩ : ∃ z : ByteArray, (⟨(Lib.repeatL [48] (max 0 (10 - (d.size : Int))).toNat).toArray⟩ : ByteArray) = z := ⟨_, rfl⟩
  rw [hz] at K2
  rw [show 10 - d.size = (max 0 (10 - (d.size : Int))).toNat by omega, hz] at hB
  have zs : z.size ≤ 11 := by rw [← hz, bs_size, Lib.repeatL_length]; simp; omega
  have zs1 : (p ++ (⟨#[]⟩ : ByteArray)).size ≤ 2147483646 := by rw [ByteArray.size_append, show (⟨#[]⟩ : ByteArray).size = 0 from rfl]; omega
  have zs2 : (p ++ (⟨#[]⟩ : ByteArray) ++ z).size ≤ 2147483657 := by rw [ByteArray.size_append]; omega
  have hE : p ++ (⟨#[]⟩ : ByteArray) ++ z ++ d = p ++ numB n := by rw [← hB, ByteArray.append_assoc, show p ++ (⟨#[]⟩ : ByteArray) = p from ByteArray.append_empty]
  have hzz : (p ++ numB n).size ≤ 2147483648 := by rw [ByteArray.size_append, show (numB n).size = (numT n).length from bs_size _]; omega
  have K3 := Lib.hid (fun w => is_calls (p ++ numB n) w hzz)
  have HT := Lib.hid hT
  have q0 : decide (n < 0) = false := decide_eq_false hn
  have hS : seqP p n = if isP (p ++ numB n) = true then (p ++ numB n, 0) else (empty, 50) := rfl
  obtain ⟨s, hs2⟩ : ∃ s, p ++ numB n = s := ⟨_, rfl⟩
  rw [hs2] at hE K3 hS
  have HE := Lib.hid hE
  clear hT hP hlen hB hd hz hE hzz hs2 hdl
  unfold SeqPost
  cases hi : isP s with
  | true =>
    rw [hi] at K3 hS
    rw [if_pos rfl] at hS
    rw [hS]
    clear hS
    go_enter Tryd.func28, Tryd.ntmps28
    go_wp2_with fail
    refine K1.out.mono ?_
    rintro e w1 ⟨rfl, hB1⟩
    have HB1 := Lib.hid hB1
    clear hB1
    go_wp2_with fail
    refine (K2.out w1).mono ?_
    rintro e w2 ⟨rfl, hB⟩
    have HB2 := Lib.hid (below_step HB1.out hB)
    clear hB
    go_wp2_with fail
    rw [HE.out]
    refine (K3.out w2 (tabs_from HT.out HB2.out)).mono ?_
    rintro e w3 ⟨rfl, hB⟩
    have HB3 := Lib.hid (below_step HB2.out hB)
    clear hB
    go_wp2
    go_ret2
    exact ⟨rfl, HB3.out⟩
  | false =>
    rw [hi] at K3 hS
    rw [if_neg (by decide)] at hS
    rw [hS]
    clear hS
    go_enter Tryd.func28, Tryd.ntmps28
    go_wp2_with fail
    refine K1.out.mono ?_
    rintro e w1 ⟨rfl, hB1⟩
    have HB1 := Lib.hid hB1
    clear hB1
    go_wp2_with fail
    refine (K2.out w1).mono ?_
    rintro e w2 ⟨rfl, hB⟩
    have HB2 := Lib.hid (below_step HB1.out hB)
    clear hB
    go_wp2_with fail
    rw [HE.out]
    refine (K3.out w2 (tabs_from HT.out HB2.out)).mono ?_
    rintro e w3 ⟨rfl, hB⟩
    have HB3 := Lib.hid (below_step HB2.out hB)
    clear hB
    go_wp2
    go_ret2
    exact ⟨rfl, HB3.out⟩
set_option maxHeartbeats 8000000 in
theorem seq_neg (p : ByteArray) (n : Int) (w : World) (hs : p.size ≤ 2147483636) (hn : n < 0) (h0 : -2147483648 ≤ n) (hT : Tabs w) (hP : Pows w) : Calls Tryd.prog 28 #[.string p, .int .i32 n] w (SeqPost p n w) := by
  have hit : Lib.itoa n = 45 :: Lib.decDigits n.natAbs := by unfold Lib.itoa; rw [if_pos hn]
  have hlen : (Lib.decDigits n.natAbs).length ≤ 10 := by rw [Lib.decDigits_length]; exact nDigits_le (by omega)
  have hB := numB_neg hn h0
  have hsz := numT_size (n := n) h0 (by omega)
  have K1 := Lib.hid (itoa_calls n w h0 (by omega) hP)
  rw [hit] at K1
  obtain ⟨d0, hd0⟩ : ∃ d : ByteArray, (⟨(45 :: Lib.decDigits n.natAbs).toArray⟩ : ByteArray) = d := ⟨_, rfl⟩
  obtain ⟨d, hd⟩ : ∃ d : ByteArray, (⟨(Lib.decDigits n.natAbs).toArray⟩ : ByteArray) = d := ⟨_, rfl⟩
  have hd1 : d0.extract 1 d0.size = d := by
    apply toList_inj
    rw [← hd0, ← hd, Lib.toList_data, Lib.toList_data, ByteArray.data_extract]
    simp [ByteArray.size]
  have hdz : d0.size = d.size + 1 := by rw [← hd0, ← hd, bs_size, bs_size]; simp
  have hds : d.size ≤ 10 := by rw [← hd, bs_size]; exact hlen
  have hdl : (Lib.decDigits n.natAbs).length = d.size := by rw [← hd, bs_size]
  rw [hd0] at K1
  rw [hd] at hB
  rw [hdl] at hB
  have K2 := Lib.hid (fun w => zeros_calls (max 0 (9 - (d.size : Int))) w (by omega) (by omega))
  obtain ⟨z, hz⟩ : ∃ z : ByteArray, (⟨(Lib.repeatL [48] (max 0 (9 - (d.size : Int))).toNat).toArray⟩ : ByteArray) = z := ⟨_, rfl⟩
  rw [hz] at K2
  rw [show 9 - d.size = (max 0 (9 - (d.size : Int))).toNat by omega, hz] at hB
  have zs : z.size ≤ 11 := by rw [← hz, bs_size, Lib.repeatL_length]; simp; omega
  have zs1 : (p ++ (⟨#[45]⟩ : ByteArray)).size ≤ 2147483646 := by rw [ByteArray.size_append, show (⟨#[45]⟩ : ByteArray).size = 1 from rfl]; omega
  have zs2 : (p ++ (⟨#[45]⟩ : ByteArray) ++ z).size ≤ 2147483657 := by rw [ByteArray.size_append]; omega
  have hE : p ++ (⟨#[45]⟩ : ByteArray) ++ z ++ d = p ++ numB n := by rw [← hB, ByteArray.append_assoc, ByteArray.append_assoc, ByteArray.append_assoc]
  have hzz : (p ++ numB n).size ≤ 2147483648 := by rw [ByteArray.size_append, show (numB n).size = (numT n).length from bs_size _]; omega
  have K3 := Lib.hid (fun w => is_calls (p ++ numB n) w hzz)
  have HT := Lib.hid hT
  have q0 : decide (n < 0) = true := decide_eq_true hn
  have hS : seqP p n = if isP (p ++ numB n) = true then (p ++ numB n, 0) else (empty, 50) := rfl
  obtain ⟨s, hs2⟩ : ∃ s, p ++ numB n = s := ⟨_, rfl⟩
  rw [hs2] at hE K3 hS
  have HE := Lib.hid hE
  rw [hdz] at hd1
  have HD := Lib.hid hd1
  have qsz : (⟨#[45]⟩ : ByteArray).size = 1 := rfl
  clear hT hP hlen hB hd hd0 hz hE hzz hs2 hdl hit hd1
  unfold SeqPost
  cases hi : isP s with
  | true =>
    rw [hi] at K3 hS
    rw [if_pos rfl] at hS
    rw [hS]
    clear hS
    go_enter Tryd.func28, Tryd.ntmps28
    go_wp2_with fail
    refine K1.out.mono ?_
    rintro e w1 ⟨rfl, hB1⟩
    have HB1 := Lib.hid hB1
    clear hB1
    go_wp2_with fail
    refine wp_region_quiet_below (by kernel_rfl) (by kernel_rfl) ?_
    repeat (go_big_quiet_step (fail))
    refine wpQuiet_nil ?_
    intro _ hw'
    obtain ⟨⟨dq, osq⟩, hw''⟩ := hw'
    subst hw''
    have HBq := Lib.hid (below_step HB1.out (below_regrown w1 dq osq))
    obtain ⟨wq, hwq⟩ : ∃ V, Go.Sort.grow (redrawn w1 dq) osq = V := ⟨_, rfl⟩
    rw [hwq] at HBq
    simp only [hwq]
    clear hwq
    go_wp2_with fail
    refine (K2.out wq).mono ?_
    rintro e w2 ⟨rfl, hB⟩
    have HB2 := Lib.hid (below_step HBq.out hB)
    clear hB
    go_wp2_with fail
    rw [HD.out, HE.out]
    refine (K3.out w2 (tabs_from HT.out HB2.out)).mono ?_
    rintro e w3 ⟨rfl, hB⟩
    have HB3 := Lib.hid (below_step HB2.out hB)
    clear hB
    go_wp2
    go_ret2
    exact ⟨rfl, HB3.out⟩
  | false =>
    rw [hi] at K3 hS
    rw [if_neg (by decide)] at hS
    rw [hS]
    clear hS
    go_enter Tryd.func28, Tryd.ntmps28
    go_wp2_with fail
    refine K1.out.mono ?_
    rintro e w1 ⟨rfl, hB1⟩
    have HB1 := Lib.hid hB1
    clear hB1
    go_wp2_with fail
    refine wp_region_quiet_below (by kernel_rfl) (by kernel_rfl) ?_
    repeat (go_big_quiet_step (fail))
    refine wpQuiet_nil ?_
    intro _ hw'
    obtain ⟨⟨dq, osq⟩, hw''⟩ := hw'
    subst hw''
    have HBq := Lib.hid (below_step HB1.out (below_regrown w1 dq osq))
    obtain ⟨wq, hwq⟩ : ∃ V, Go.Sort.grow (redrawn w1 dq) osq = V := ⟨_, rfl⟩
    rw [hwq] at HBq
    simp only [hwq]
    clear hwq
    go_wp2_with fail
    refine (K2.out wq).mono ?_
    rintro e w2 ⟨rfl, hB⟩
    have HB2 := Lib.hid (below_step HBq.out hB)
    clear hB
    go_wp2_with fail
    rw [HD.out, HE.out]
    refine (K3.out w2 (tabs_from HT.out HB2.out)).mono ?_
    rintro e w3 ⟨rfl, hB⟩
    have HB3 := Lib.hid (below_step HB2.out hB)
    clear hB
    go_wp2
    go_ret2
    exact ⟨rfl, HB3.out⟩
theorem seq_calls (p : ByteArray) (n : Int) (w : World) (hs : p.size ≤ 2147483636) (h0 : -2147483648 ≤ n) (h1 : n ≤ 2147483647) (hT : Tabs w) (hP : Pows w) : Calls Tryd.prog 28 #[.string p, .int .i32 n] w fun e w' => e = .returned (.tuple #[.string (seqP p n).1, .int .i64 ((seqP p n).2 : Nat)]) ∧ Below w.heap.size w w' := by
  by_cases hn : n < 0
  · exact seq_neg p n w hs hn h0 hT hP
  · exact seq_pos p n w hs hn h1 hT hP
end Go.Proofs.YtcilfjmiiodfgaaDoor.Q
