import Derived.Test.YtcilfjmiiodfgaaDoorR5
import Derived.Laws.BytesArg
namespace Go.Proofs.YtcilfjmiiodfgaaDoor.Q
open Go.RowKit Go.Shelf Go.Proofs.YtcilfjmiiodfgaaDoorW.PrintWords Go.Proofs.YtcilfjmiiodfgaaDoor.Pr
set_option linter.unusedVariables false
set_option linter.unusedSimpArgs false
attribute [local go_sem] Oper.semAt_some
theorem info5 : (Tryd.prog.info? 5).map (fun i => (i.zero, i.size, i.bytes)) = some (some (.int .u8 0), 1, 1) := by kernel_rfl

/-! THE REFERENCE'S DIGITS -/
def nD (m : Nat) : Nat := if m = 0 then 0 else Lib.nDigits m
theorem nD_succ {m : Nat} (h : 0 < m) : nD m = nD (m / 10) + 1 := by
  unfold nD
  rw [if_neg (by omega)]
  by_cases hs : m < 10
  · rw [if_pos (by omega), Lib.nDigits_small hs]
  · rw [if_neg (by omega), Lib.nDigits_big hs]
theorem nD_zero : nD 0 = 0 := rfl
def u8s (B : List UInt8) : List Value := B.map fun c => .int .u8 (c.toNat : Nat)
/-- how many digits are yet to come -/
def left (w : Nat) (B : List UInt8) (m : Nat) : Nat := max (w - B.length) (nD m)
theorem left_step {w : Nat} {B : List UInt8} {m : Nat} (h : 0 < m ∨ B.length < w) : left w B m = left w (B ++ [UInt8.ofNat (48 + m % 10)]) (m / 10) + 1 := by
  unfold left
  rw [List.length_append, List.length_singleton]
  rcases Nat.eq_zero_or_pos m with h0 | h0
  · subst h0
    rw [show 0 / 10 = 0 by rfl, nD_zero]; omega
  · rw [nD_succ h0]; omega
theorem left_end {w : Nat} {B : List UInt8} {m : Nat} (h : ¬ (0 < m ∨ B.length < w)) : left w B m = 0 := by
  unfold left
  rw [show m = 0 by omega, nD_zero]; omega
theorem num_step {w : Nat} {B : List UInt8} {m : Nat} (h : 0 < m ∨ B.length < w) : dgs (left w B m) m ++ B.reverse = dgs (left w (B ++ [UInt8.ofNat (48 + m % 10)]) (m / 10)) (m / 10) ++ (B ++ [UInt8.ofNat (48 + m % 10)]).reverse := by
  rw [left_step h, dgs, List.reverse_append, List.append_assoc]; rfl
def lenOf : Value → Nat
  | .slice _ n _ => n
  | _ => 0
theorem u8s_step {W : World} {base : Nat} {v : Value} {B : List UInt8} {c : Nat} (h : W.ownsRow base 5 1 v (B.length + 1) (u8s B ++ [.int .u8 ((c : Nat) : Int)])) (hc : c < 256) : W.ownsRow base 5 1 v (B ++ [UInt8.ofNat c]).length (u8s (B ++ [UInt8.ofNat c])) := by
  rw [List.length_append, List.length_singleton]
  have : u8s (B ++ [UInt8.ofNat c]) = u8s B ++ [.int .u8 ((c : Nat) : Int)] := by
    unfold u8s
    simp only [List.map_append, List.map_cons, List.map_nil, UInt8.toNat_ofNat', Nat.mod_eq_of_lt hc]
  rw [this]; exact h
theorem u8_some {W : World} {base n c : Nat} {A : Option Addr} {xs : List Value} (h : W.ownsRow base 5 1 (.slice A n c) n xs) (hn : 0 < n) : ∃ g, A = some ⟨g, 0, none⟩ := by
  rcases h.2 with ⟨_, h0⟩ | ⟨g, cap, cur, hv, _⟩
  · omega
  · cases hv; exact ⟨g, rfl⟩
theorem u8_cell {W : World} {base c g : Nat} {B : List UInt8} (h : W.ownsRow base 5 1 (.slice (some ⟨g, 0, none⟩) B.length c) B.length (u8s B)) {k : Nat} (hk : k < B.length) : W.cell? ⟨g, k, none⟩ = some (.int .u8 (B.getD k 0).toNat) := by
  rw [World.ownsRow.cellAt h k (by omega)]
  simp [u8s, hk]
theorem back_step (sg : ByteArray) (B : List UInt8) (k : Nat) (hk : k < B.length) : sg ++ ⟨(B.drop (k + 1)).reverse.toArray⟩ ++ strOfNums [((B.getD k 0).toNat : Int)] = sg ++ ⟨(B.drop k).reverse.toArray⟩ := by
  rw [ByteArray.append_assoc]
  congr 1
  have h1 : strOfNums [((B.getD k 0).toNat : Int)] = ⟨([B.getD k 0] : List UInt8).toArray⟩ := by
    apply toList_inj
    rw [Lib.toList_data, Lib.toList_data, strOfNums_data]
    simp
  rw [h1, bs_append]
  have h2 : B.drop k = B.getD k 0 :: B.drop (k + 1) := by
    rw [List.drop_eq_getElem_cons hk, List.getD_eq_getElem?_getD, List.getElem?_eq_getElem hk]; rfl
  rw [h2, List.reverse_cons]
def DigPost (n : Int) (w : World) (e : Ending) (w' : World) : Prop := e = .returned (.string (numB n)) ∧ Below w.heap.size w w'
set_option maxHeartbeats 8000000 in
theorem digits_neg (n : Int) (w : World) (F : List UInt8) (hn : n < 0) (hlo : -2147483648 ≤ n) (hF : F = dgs (left 9 [] n.natAbs) n.natAbs) (hl : left 9 [] n.natAbs ≤ 10) (hR : (⟨#[45]⟩ : ByteArray) ++ ⟨F.toArray⟩ = numB n) : Calls Tryd.prog 43 #[.int .i32 n] w (DigPost n w) := by
  have q0 : decide (n < 0) = true := decide_eq_true hn
  obtain ⟨i5, hi, hz0, hz1, hz2⟩ := info_parts info5
  have HI := Lib.hid (And.intro hi (And.intro hz0 (And.intro hz1 hz2)))
  have HF := Lib.hid (And.intro hF hl)
  have HR := Lib.hid hR
  clear hi hz0 hz1 hz2 hF hl hR
  go_enter Tryd.func43, Tryd.ntmps43
  go_wp2_with fail
  rename_i KK aK
  have HK := Lib.hid aK
  clear aK
  go_loopw [3, 6] (fun vm vb wr => ∃ (m : Nat) (B : List UInt8), vm = .int .i64 m ∧ m ≤ 2147483648 ∧ Hid (wr.ownsRow w.heap.size 5 1 vb B.length (u8s B)) ∧ Hid (Below w.heap.size w wr) ∧ B.length + left 9 B m ≤ 10 ∧ Hid (F = dgs (left 9 B m) m ++ B.reverse)) (fun _ vb _ => 11 - lenOf vb)
  case atStart => exact ⟨n.natAbs, [], by rw [show -n = ((n.natAbs : Nat) : Int) by omega], by omega, Lib.hid (World.ownsRow_nil _ _ _ _), Lib.hid (Below.refl _ _), by simpa using HF.out.2, Lib.hid (by rw [HF.out.1]; simp)⟩
  case round =>
    obtain ⟨m, B, rfl, hm2, HO, HB, hlen, HFF⟩ := hrel
    obtain ⟨av, cv, rfl, hnc⟩ := own_sliceN HO.out
    by_cases hgt : 0 < m
    · have q1 : decide ((0 : Int) < (m : Int)) = true := by simp; omega
      have hc : 0 < m ∨ B.length < 9 := .inl hgt
      have hcl : B.length < 11 := by have := left_step hc; omega
      go_wp2_with (at_builtin; refine wpList_append_own _ rfl (.tmp 23) (.tmp 28) 63 rfl w.heap.size 5 i5 (.int .u8 0) 1 1 Tryd.underlying63 HI.out.1 HI.out.2.1 HI.out.2.2.1 HI.out.2.2.2 rfl (by decide) _ _ _ rfl (HO.out.alloc _) ⟨wr.heap.size, 0, none⟩ 1 1 [.int .u8 (48 + (m : Int) % 10)] rfl rfl (cell_one_new _ _ _) (by simp [Value.oneCell']) (by unfold maxLen; omega) (by omega) (by have := HB.out.size; simp; omega) ?_; intro v' W1 hown' hgrow _; obtain ⟨g', cap', rfl⟩ := ownsRow_succ hown'; obtain ⟨_, hon⟩ := app_keep HO.out HB.out.size hgrow; have HB1 := Lib.hid (hon.from HB.out (fun k hk => hk)); have HO1 := Lib.hid hown'; clear hown' hgrow hon)
      exact ⟨⟨m / 10, B ++ [UInt8.ofNat (48 + m % 10)], by go_num, by omega, Lib.hid (u8s_step (c := 48 + m % 10) (by rw [show ((48 + m % 10 : Nat) : Int) = 48 + (m : Int) % 10 by omega]; exact HO1.out) (by omega)), HB1, by rw [left_step hc] at hlen; simp at hlen ⊢; omega, Lib.hid (HFF.out.trans (num_step hc))⟩, by simp [lenOf]; omega⟩
    · have q1 : decide ((0 : Int) < (m : Int)) = false := by simp; omega
      by_cases hlt : B.length < 9
      · have q2 : decide ((B.length : Int) < 9) = true := by simp; omega
        have hc : 0 < m ∨ B.length < 9 := .inr hlt
        have hcl : B.length < 11 := by omega
        go_wp2_with (at_builtin; refine wpList_append_own _ rfl (.tmp 23) (.tmp 28) 63 rfl w.heap.size 5 i5 (.int .u8 0) 1 1 Tryd.underlying63 HI.out.1 HI.out.2.1 HI.out.2.2.1 HI.out.2.2.2 rfl (by decide) _ _ _ rfl (HO.out.alloc _) ⟨wr.heap.size, 0, none⟩ 1 1 [.int .u8 (48 + (m : Int) % 10)] rfl rfl (cell_one_new _ _ _) (by simp [Value.oneCell']) (by unfold maxLen; omega) (by omega) (by have := HB.out.size; simp; omega) ?_; intro v' W1 hown' hgrow _; obtain ⟨g', cap', rfl⟩ := ownsRow_succ hown'; obtain ⟨_, hon⟩ := app_keep HO.out HB.out.size hgrow; have HB1 := Lib.hid (hon.from HB.out (fun k hk => hk)); have HO1 := Lib.hid hown'; clear hown' hgrow hon)
        exact ⟨⟨m / 10, B ++ [UInt8.ofNat (48 + m % 10)], by go_num, by omega, Lib.hid (u8s_step (c := 48 + m % 10) (by rw [show ((48 + m % 10 : Nat) : Int) = 48 + (m : Int) % 10 by omega]; exact HO1.out) (by omega)), HB1, by rw [left_step hc] at hlen; simp at hlen ⊢; omega, Lib.hid (HFF.out.trans (num_step hc))⟩, by simp [lenOf]; omega⟩
      · have q2 : decide ((B.length : Int) < 9) = false := by simp; omega
        have hE := left_end (w := 9) (B := B) (m := m) (by omega)
        have hFr : F = B.reverse := by have := HFF.out; rw [hE] at this; simpa [dgs] using this
        have hBl : 0 < B.length := by omega
        obtain ⟨g, rfl⟩ := u8_some HO.out hBl
        have HRR := Lib.hid hFr
        clear hE hFr HFF
        go_wp2
        refine HK.out _ _ ?_
        go_wp2_with fail
        rename_i K2 aK2
        have HK2 := Lib.hid aK2
        clear aK2
        go_loop [7, 8] (fun s i => ∃ j : Nat, j ≤ B.length ∧ i = .int .i64 ((j : Int) - 1) ∧ s = .string ((⟨#[45]⟩ : ByteArray) ++ ⟨(B.drop j).reverse.toArray⟩)) (fun _ i => (intOf i + 1).toNat)
        case atStart => exact ⟨B.length, Nat.le_refl _, rfl, by rw [List.drop_length]; exact congrArg Value.string ByteArray.append_empty.symm⟩
        case round =>
          obtain ⟨j, hj, rfl, rfl⟩ := hrel
          cases j with
          | zero =>
            have q5 : decide ((0 : Int) ≤ ((0 : Nat) : Int) - 1) = false := by simp
            have hfin : ((⟨#[45]⟩ : ByteArray) : ByteArray) ++ ⟨(B.drop 0).reverse.toArray⟩ = numB n := by rw [← HR.out, HRR.out]; rfl
            rw [hfin]
            go_wp2
            refine HK2.out _ _ ?_
            go_wp2
            go_ret
            exact ⟨rfl, HB.out⟩
          | succ k =>
            have hcell := u8_cell HO.out (k := k) (by omega)
            have hcv := run_convert_bytes_arg (P := Tryd.prog) wr 63 5 Tryd.underlying63 Tryd.underlying5 g k 1 (cv - k) [((B.getD k 0).toNat : Int)] rfl (fun i hi => by obtain rfl : i = 0 := (by omega); simpa using hcell) 9 Tryd.underlying9
            have hnx := back_step (⟨#[45]⟩ : ByteArray) B k (by omega)
            have z2 : (strOfNums [((B.getD k 0).toNat : Int)]).size = 1 := by rw [strOfNums_size]; rfl
            have zz : (⟨(B.drop (k + 1)).reverse.toArray⟩ : ByteArray).size = B.length - (k + 1) := by rw [bs_size]; simp
            have z1 : ((⟨#[45]⟩ : ByteArray) ++ ⟨(B.drop (k + 1)).reverse.toArray⟩ : ByteArray).size ≤ 20 := by rw [ByteArray.size_append, zz]; have : ((⟨#[45]⟩ : ByteArray) : ByteArray).size ≤ 1 := (by decide); omega
            obtain ⟨S1, hS1⟩ : ∃ S1, ((⟨#[45]⟩ : ByteArray) ++ ⟨(B.drop (k + 1)).reverse.toArray⟩ : ByteArray) = S1 := ⟨_, rfl⟩
            obtain ⟨c1, hc1⟩ : ∃ c1, strOfNums [((B.getD k 0).toNat : Int)] = c1 := ⟨_, rfl⟩
            rw [hS1] at z1 hnx ⊢
            rw [hc1] at z2 hnx hcv
            have HN := Lib.hid hnx
            have hi : (((k + 1 : Nat) : Int) - 1) = (k : Int) := by omega
            rw [hi]
            clear hnx hS1 hc1 zz hcell hi
            go_wp2
            exact ⟨⟨k, by omega, rfl, by rw [HN.out]⟩, by simp [intOf]⟩
set_option maxHeartbeats 8000000 in
theorem digits_pos (n : Int) (w : World) (F : List UInt8) (hn : ¬ n < 0) (hlo : n ≤ 2147483647) (hF : F = dgs (left 10 [] n.toNat) n.toNat) (hl : left 10 [] n.toNat ≤ 10) (hR : (⟨#[]⟩ : ByteArray) ++ ⟨F.toArray⟩ = numB n) : Calls Tryd.prog 43 #[.int .i32 n] w (DigPost n w) := by
  have q0 : decide (n < 0) = false := decide_eq_false hn
  obtain ⟨i5, hi, hz0, hz1, hz2⟩ := info_parts info5
  have HI := Lib.hid (And.intro hi (And.intro hz0 (And.intro hz1 hz2)))
  have HF := Lib.hid (And.intro hF hl)
  have HR := Lib.hid hR
  clear hi hz0 hz1 hz2 hF hl hR
  go_enter Tryd.func43, Tryd.ntmps43
  go_wp2_with fail
  rename_i KK aK
  have HK := Lib.hid aK
  clear aK
  go_loopw [3, 6] (fun vm vb wr => ∃ (m : Nat) (B : List UInt8), vm = .int .i64 m ∧ m ≤ 2147483648 ∧ Hid (wr.ownsRow w.heap.size 5 1 vb B.length (u8s B)) ∧ Hid (Below w.heap.size w wr) ∧ B.length + left 10 B m ≤ 10 ∧ Hid (F = dgs (left 10 B m) m ++ B.reverse)) (fun _ vb _ => 11 - lenOf vb)
  case atStart => exact ⟨n.toNat, [], by rw [show ((n.toNat : Nat) : Int) = n by omega], by omega, Lib.hid (World.ownsRow_nil _ _ _ _), Lib.hid (Below.refl _ _), by simpa using HF.out.2, Lib.hid (by rw [HF.out.1]; simp)⟩
  case round =>
    obtain ⟨m, B, rfl, hm2, HO, HB, hlen, HFF⟩ := hrel
    obtain ⟨av, cv, rfl, hnc⟩ := own_sliceN HO.out
    by_cases hgt : 0 < m
    · have q1 : decide ((0 : Int) < (m : Int)) = true := by simp; omega
      have hc : 0 < m ∨ B.length < 10 := .inl hgt
      have hcl : B.length < 11 := by have := left_step hc; omega
      go_wp2_with (at_builtin; refine wpList_append_own _ rfl (.tmp 23) (.tmp 28) 63 rfl w.heap.size 5 i5 (.int .u8 0) 1 1 Tryd.underlying63 HI.out.1 HI.out.2.1 HI.out.2.2.1 HI.out.2.2.2 rfl (by decide) _ _ _ rfl (HO.out.alloc _) ⟨wr.heap.size, 0, none⟩ 1 1 [.int .u8 (48 + (m : Int) % 10)] rfl rfl (cell_one_new _ _ _) (by simp [Value.oneCell']) (by unfold maxLen; omega) (by omega) (by have := HB.out.size; simp; omega) ?_; intro v' W1 hown' hgrow _; obtain ⟨g', cap', rfl⟩ := ownsRow_succ hown'; obtain ⟨_, hon⟩ := app_keep HO.out HB.out.size hgrow; have HB1 := Lib.hid (hon.from HB.out (fun k hk => hk)); have HO1 := Lib.hid hown'; clear hown' hgrow hon)
      exact ⟨⟨m / 10, B ++ [UInt8.ofNat (48 + m % 10)], by go_num, by omega, Lib.hid (u8s_step (c := 48 + m % 10) (by rw [show ((48 + m % 10 : Nat) : Int) = 48 + (m : Int) % 10 by omega]; exact HO1.out) (by omega)), HB1, by rw [left_step hc] at hlen; simp at hlen ⊢; omega, Lib.hid (HFF.out.trans (num_step hc))⟩, by simp [lenOf]; omega⟩
    · have q1 : decide ((0 : Int) < (m : Int)) = false := by simp; omega
      by_cases hlt : B.length < 10
      · have q2 : decide ((B.length : Int) < 10) = true := by simp; omega
        have hc : 0 < m ∨ B.length < 10 := .inr hlt
        have hcl : B.length < 11 := by omega
        go_wp2_with (at_builtin; refine wpList_append_own _ rfl (.tmp 23) (.tmp 28) 63 rfl w.heap.size 5 i5 (.int .u8 0) 1 1 Tryd.underlying63 HI.out.1 HI.out.2.1 HI.out.2.2.1 HI.out.2.2.2 rfl (by decide) _ _ _ rfl (HO.out.alloc _) ⟨wr.heap.size, 0, none⟩ 1 1 [.int .u8 (48 + (m : Int) % 10)] rfl rfl (cell_one_new _ _ _) (by simp [Value.oneCell']) (by unfold maxLen; omega) (by omega) (by have := HB.out.size; simp; omega) ?_; intro v' W1 hown' hgrow _; obtain ⟨g', cap', rfl⟩ := ownsRow_succ hown'; obtain ⟨_, hon⟩ := app_keep HO.out HB.out.size hgrow; have HB1 := Lib.hid (hon.from HB.out (fun k hk => hk)); have HO1 := Lib.hid hown'; clear hown' hgrow hon)
        exact ⟨⟨m / 10, B ++ [UInt8.ofNat (48 + m % 10)], by go_num, by omega, Lib.hid (u8s_step (c := 48 + m % 10) (by rw [show ((48 + m % 10 : Nat) : Int) = 48 + (m : Int) % 10 by omega]; exact HO1.out) (by omega)), HB1, by rw [left_step hc] at hlen; simp at hlen ⊢; omega, Lib.hid (HFF.out.trans (num_step hc))⟩, by simp [lenOf]; omega⟩
      · have q2 : decide ((B.length : Int) < 10) = false := by simp; omega
        have hE := left_end (w := 10) (B := B) (m := m) (by omega)
        have hFr : F = B.reverse := by have := HFF.out; rw [hE] at this; simpa [dgs] using this
        have hBl : 0 < B.length := by omega
        obtain ⟨g, rfl⟩ := u8_some HO.out hBl
        have HRR := Lib.hid hFr
        clear hE hFr HFF
        go_wp2
        refine HK.out _ _ ?_
        go_wp2_with fail
        rename_i K2 aK2
        have HK2 := Lib.hid aK2
        clear aK2
        go_loop [7, 8] (fun s i => ∃ j : Nat, j ≤ B.length ∧ i = .int .i64 ((j : Int) - 1) ∧ s = .string ((⟨#[]⟩ : ByteArray) ++ ⟨(B.drop j).reverse.toArray⟩)) (fun _ i => (intOf i + 1).toNat)
        case atStart => exact ⟨B.length, Nat.le_refl _, rfl, by rw [List.drop_length]; exact congrArg Value.string ByteArray.append_empty.symm⟩
        case round =>
          obtain ⟨j, hj, rfl, rfl⟩ := hrel
          cases j with
          | zero =>
            have q5 : decide ((0 : Int) ≤ ((0 : Nat) : Int) - 1) = false := by simp
            have hfin : ((⟨#[]⟩ : ByteArray) : ByteArray) ++ ⟨(B.drop 0).reverse.toArray⟩ = numB n := by rw [← HR.out, HRR.out]; rfl
            rw [hfin]
            go_wp2
            refine HK2.out _ _ ?_
            go_wp2
            go_ret
            exact ⟨rfl, HB.out⟩
          | succ k =>
            have hcell := u8_cell HO.out (k := k) (by omega)
            have hcv := run_convert_bytes_arg (P := Tryd.prog) wr 63 5 Tryd.underlying63 Tryd.underlying5 g k 1 (cv - k) [((B.getD k 0).toNat : Int)] rfl (fun i hi => by obtain rfl : i = 0 := (by omega); simpa using hcell) 9 Tryd.underlying9
            have hnx := back_step (⟨#[]⟩ : ByteArray) B k (by omega)
            have z2 : (strOfNums [((B.getD k 0).toNat : Int)]).size = 1 := by rw [strOfNums_size]; rfl
            have zz : (⟨(B.drop (k + 1)).reverse.toArray⟩ : ByteArray).size = B.length - (k + 1) := by rw [bs_size]; simp
            have z1 : ((⟨#[]⟩ : ByteArray) ++ ⟨(B.drop (k + 1)).reverse.toArray⟩ : ByteArray).size ≤ 20 := by rw [ByteArray.size_append, zz]; have : ((⟨#[]⟩ : ByteArray) : ByteArray).size ≤ 1 := (by decide); omega
            obtain ⟨S1, hS1⟩ : ∃ S1, ((⟨#[]⟩ : ByteArray) ++ ⟨(B.drop (k + 1)).reverse.toArray⟩ : ByteArray) = S1 := ⟨_, rfl⟩
            obtain ⟨c1, hc1⟩ : ∃ c1, strOfNums [((B.getD k 0).toNat : Int)] = c1 := ⟨_, rfl⟩
            rw [hS1] at z1 hnx ⊢
            rw [hc1] at z2 hnx hcv
            have HN := Lib.hid hnx
            have hi : (((k + 1 : Nat) : Int) - 1) = (k : Int) := by omega
            rw [hi]
            clear hnx hS1 hc1 zz hcell hi
            go_wp2
            exact ⟨⟨k, by omega, rfl, by rw [HN.out]⟩, by simp [intOf]⟩
theorem left_dig {w u : Nat} (h : 1 ≤ w) : left w [] u = max w (Lib.nDigits u) := by
  unfold left nD
  rw [List.length_nil, Nat.sub_zero]
  split
  · rename_i h0; subst h0; rw [Lib.nDigits_small (by omega)]; omega
  · rfl
theorem digits_calls (n : Int) (w : World) (h0 : -2147483648 ≤ n) (h1 : n ≤ 2147483647) : Calls Tryd.prog 43 #[.int .i32 n] w fun e w' => e = .returned (.string (numB n)) ∧ Below w.heap.size w w' := by
  by_cases hn : n < 0
  · refine digits_neg n w _ hn h0 rfl (by rw [left_dig (by omega)]; have := nDigits_le (u := n.natAbs) (by omega); omega) ?_
    rw [left_dig (by omega), show (⟨#[45]⟩ : ByteArray) = ⟨([45] : List UInt8).toArray⟩ from rfl, bs_append]
    unfold numB numT
    rw [if_pos hn]; rfl
  · refine digits_pos n w _ hn h1 rfl (by rw [left_dig (by omega)]; have := nDigits_le (u := n.toNat) (by omega); omega) ?_
    rw [left_dig (by omega), show (⟨#[]⟩ : ByteArray) = ⟨([] : List UInt8).toArray⟩ from rfl, bs_append]
    unfold numB numT
    rw [if_neg hn, show n.toNat = n.natAbs by omega]; rfl
end Go.Proofs.YtcilfjmiiodfgaaDoor.Q
