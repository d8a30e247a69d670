import Derived.Test.YtcilfjmiiodfgaaDoorQ1
import Derived.Test.YtcilfjmiiodfgaaDoorR2
namespace Go.Proofs.YtcilfjmiiodfgaaDoor.Q
open Go.RowKit Go.Shelf Go.Proofs.YtcilfjmiiodfgaaDoorW.PrintWords Go.Proofs.YtcilfjmiiodfgaaDoor.Pr
set_option linter.unusedVariables false
set_option linter.unusedSimpArgs false

def hasTo (l : List ByteArray) (q : ByteArray) (k : Nat) : Bool := (l.take k).any fun x => x.toList == q.toList
theorem hasTo_zero (l : List ByteArray) (q : ByteArray) : hasTo l q 0 = false := rfl
theorem hasTo_succ (l : List ByteArray) (q : ByteArray) (k : Nat) (x : ByteArray) (hk : l[k]? = some x) : hasTo l q (k + 1) = (hasTo l q k || (x.toList == q.toList)) := by
  unfold hasTo
  rw [List.take_add_one, hk, List.any_append]
  simp
open Classical in
theorem hasTo_all (l : List ByteArray) (q : ByteArray) : hasTo l q l.length = decide (q ∈ l) := by
  unfold hasTo
  rw [List.take_length, Bool.eq_iff_iff]
  simp only [List.any_eq_true, beq_iff_eq, decide_eq_true_eq]
  constructor
  · rintro ⟨x, h1, h2⟩
    rw [← toList_inj h2]; exact h1
  · intro h; exact ⟨q, h, rfl⟩
theorem none_above {p : ByteArray} (h : ¬ (isP p = true ∧ ¬ p.toList = [47])) : aboveP p = [] := by unfold aboveP; rw [if_neg h]
theorem above_path : ∀ n (p q : ByteArray), p.size ≤ n → q ∈ aboveP p → isP q = true := by
  intro n
  induction n with
  | zero =>
    intro p q h1 h2
    by_cases h : isP p = true ∧ ¬ p.toList = [47]
    · have := (isP_slash h.1).1; omega
    · rw [none_above h] at h2; simp at h2
  | succ n ih =>
    intro p q h1 h2
    by_cases h : isP p = true ∧ ¬ p.toList = [47]
    · have hc := cut_of h.1 h.2
      rw [above_parent h.1 h.2] at h2
      rcases List.mem_append.1 h2 with h3 | h3
      · refine ih _ _ ?_ h3
        unfold parentP
        rw [if_pos h]
        have hlt := hc.lt
        split
        · show 1 ≤ n; omega
        · rw [ByteArray.size_extract]; omega
      · rw [List.mem_singleton.1 h3]
        exact (parent_stem h.1 h.2).2
    · rw [none_above h] at h2; simp at h2
open Classical in
theorem below_is {p q : ByteArray} (h : isP p = true) : belowP p q = decide (q ∈ aboveP p) := by
  unfold belowP
  rw [h]
  by_cases hm : q ∈ aboveP p
  · rw [above_path _ p q (Nat.le_refl _) hm]; simp [hm]
  · simp [hm]
theorem own_cell {W : World} {base : Nat} {l : List ByteArray} {g c : Nat} (h : W.ownsRow base 9 1 (.slice (some ⟨g, 0, none⟩) l.length c) l.length (texts l)) {k : Nat} {x : ByteArray} (hk : l[k]? = some x) : W.cell? ⟨g, k, none⟩ = some (.string x) := by
  have hlt : k < l.length := (List.getElem?_eq_some_iff.1 hk).1
  rw [World.ownsRow.cellAt h k (by omega)]
  simp [texts, hk]
theorem own_onlyG {W W' : World} {base g n c : Nat} {xs : List Value} {S : Nat → Prop} (h : W.ownsRow base 9 1 (.slice (some ⟨g, 0, none⟩) n c) n xs) (ho : Only S W W') (hS : ¬ S g) : W'.ownsRow base 9 1 (.slice (some ⟨g, 0, none⟩) n c) n xs := by
  refine ⟨h.1, h.2.imp id ?_⟩
  rintro ⟨k, cap, cur, hv, hb, hg, r⟩
  obtain rfl : g = k := by cases hv; rfl
  exact ⟨g, cap, cur, hv, hb, (ho.keep (Array.getElem?_eq_some_iff.1 hg).1 hS).trans hg, r⟩
theorem own_lt {W : World} {base g n c : Nat} {xs : List Value} (h : W.ownsRow base 9 1 (.slice (some ⟨g, 0, none⟩) n c) n xs) : g < W.heap.size := by
  rcases h.2 with ⟨h0, _⟩ | ⟨k, cap, cur, hv, hb, hg, r⟩
  · cases h0
  · obtain rfl : g = k := by cases hv; rfl
    exact (Array.getElem?_eq_some_iff.1 hg).1
theorem own_reads {W : World} {base c : Nat} {A : Option Addr} {l : List ByteArray} (h : W.ownsRow base 9 1 (.slice A l.length c) l.length (texts l)) (hl : l.length ≤ 4294967296) : l.length ≤ c ∧ Kd.C Kd.string W A l.length l := by
  obtain ⟨B, d, hv, h1, h2⟩ := own_texts h hl
  cases hv
  exact ⟨h1, h2⟩
theorem eq_self (l : List ByteArray) (A B : Option Addr) (c d : Nat) (w : World) (hz : l.length ≤ 4294967296) (h1 : l.length ≤ c) (h2 : l.length ≤ d) (hA : Kd.C Kd.string w A l.length l) (hB : Kd.C Kd.string w B l.length l) :
    Calls Tryd.prog 25 #[.slice A l.length c, .slice B l.length d] w fun e w' => e = .returned (.bool true) ∧ Below w.heap.size w w' :=
  (eq_calls l l A B c d w hz h1 h2 hA hB).mono fun e w' h => ⟨by simpa using h.1, h.2⟩
theorem own_some {W : World} {base n : Nat} {v : Value} {l : List ByteArray} (h : W.ownsRow base 9 1 v n (texts l)) (hn : 0 < n) : ∃ g c, v = .slice (some ⟨g, 0, none⟩) n c ∧ n ≤ c := by
  rcases h.2 with ⟨_, h0⟩ | ⟨g, cap, cur, rfl, _, _, hc, _⟩
  · omega
  · exact ⟨g, cap, rfl, hc⟩
set_option maxHeartbeats 16000000 in
theorem pathOrder_calls (p q o : ByteArray) (w : World) (hT : Tabs w) : Calls Tryd.prog 9 #[.string p, .string q, .string o] w fun e w' => e = .returned (.bool true) ∧ Below w.heap.size w w' := by
  have HT := Lib.hid hT
  clear hT
  by_cases h1 : (p.size : Int) ≥ 2147483632
  · have K1 := Lib.hid (long_is p w true (decide_eq_true h1))
    go_enter Tryd.func9, Tryd.ntmps9
    go_wp2_with fail
    refine (K1.out).mono ?_
    rintro e w1 ⟨rfl, hB⟩
    have HB1 := Lib.hid (hB)
    clear hB
    go_wp2
    go_ret
    exact ⟨rfl, HB1.out⟩
  have K1 := Lib.hid (long_is p w false (decide_eq_false h1))
  by_cases h2 : (q.size : Int) ≥ 2147483632
  · have K2 := Lib.hid (fun w => long_is q w true (decide_eq_true h2))
    go_enter Tryd.func9, Tryd.ntmps9
    go_wp2_with fail
    refine (K1.out).mono ?_
    rintro e w1 ⟨rfl, hB⟩
    have HB1 := Lib.hid (hB)
    clear hB
    go_wp2_with fail
    refine (K2.out w1).mono ?_
    rintro e w2 ⟨rfl, hB⟩
    have HB2 := Lib.hid (below_step HB1.out hB)
    clear hB
    go_wp2
    go_ret
    exact ⟨rfl, HB2.out⟩
  have K2 := Lib.hid (fun w => long_is q w false (decide_eq_false h2))
  by_cases h3 : (o.size : Int) ≥ 2147483632
  · have K3 := Lib.hid (fun w => long_is o w true (decide_eq_true h3))
    go_enter Tryd.func9, Tryd.ntmps9
    go_wp2_with fail
    refine (K1.out).mono ?_
    rintro e w1 ⟨rfl, hB⟩
    have HB1 := Lib.hid (hB)
    clear hB
    go_wp2_with fail
    refine (K2.out w1).mono ?_
    rintro e w2 ⟨rfl, hB⟩
    have HB2 := Lib.hid (below_step HB1.out hB)
    clear hB
    go_wp2_with fail
    refine (K3.out w2).mono ?_
    rintro e w3 ⟨rfl, hB⟩
    have HB3 := Lib.hid (below_step HB2.out hB)
    clear hB
    go_wp2
    go_ret
    exact ⟨rfl, HB3.out⟩
  have K3 := Lib.hid (fun w => long_is o w false (decide_eq_false h3))
  have K4 := Lib.hid (fun w => lives_calls w)
  have K5 := Lib.hid (fun w => check_calls p w (by omega))
  have K6 := Lib.hid (fun w => coll_calls p w (by omega))
  by_cases hm : ¬ (isP p = true ∧ ¬ p.toList = [47])
  · have n1 := none_above hm
    rw [n1] at K6
    by_cases hi : isP p = true
    · have hr : p.toList = [47] := Classical.byContradiction fun x => hm ⟨hi, x⟩
      have c2 : (p.toList == [47]) = true := beq_iff_eq.mpr hr
      rw [checkP_ok p hi] at K5
      clear hm n1 hi hr
      go_enter Tryd.func9, Tryd.ntmps9
      go_wp2_with fail
      refine (K1.out).mono ?_
      rintro e w1 ⟨rfl, hB⟩
      have HB1 := Lib.hid (hB)
      clear hB
      go_wp2_with fail
      refine (K2.out w1).mono ?_
      rintro e w2 ⟨rfl, hB⟩
      have HB2 := Lib.hid (below_step HB1.out hB)
      clear hB
      go_wp2_with fail
      refine (K3.out w2).mono ?_
      rintro e w3 ⟨rfl, hB⟩
      have HB3 := Lib.hid (below_step HB2.out hB)
      clear hB
      go_wp2_with fail
      refine (K4.out w3 (tabs_from HT.out HB3.out)).mono ?_
      rintro e w4 ⟨rfl, hB⟩
      have HB4 := Lib.hid (below_step HB3.out hB)
      clear hB
      go_wp2_with fail
      refine (K5.out w4 (tabs_from HT.out HB4.out)).mono ?_
      rintro e w5 ⟨rfl, hB⟩
      have HB5 := Lib.hid (below_step HB4.out hB)
      clear hB
      go_wp2_with fail
      refine (K6.out w5 (tabs_from HT.out HB5.out)).mono ?_
      rintro e w6 ⟨v, rfl, hrow, hB⟩
      obtain ⟨A, c, rfl, hc⟩ := own_sliceN hrow
      have HB6 := Lib.hid (below_step HB5.out hB)
      clear hB hrow hc
      go_wp2
      go_ret
      exact ⟨by simp, HB6.out⟩
    · have hf : isP p = false := by simpa using hi
      have n3 := checkP_no p hf
      rw [n3] at K5
      obtain ⟨x, hx⟩ : ∃ x, (checkP p).1 = x := ⟨_, rfl⟩
      rw [hx] at K5
      clear hm n1 n3 hi hf hx
      go_enter Tryd.func9, Tryd.ntmps9
      go_wp2_with fail
      refine (K1.out).mono ?_
      rintro e w1 ⟨rfl, hB⟩
      have HB1 := Lib.hid (hB)
      clear hB
      go_wp2_with fail
      refine (K2.out w1).mono ?_
      rintro e w2 ⟨rfl, hB⟩
      have HB2 := Lib.hid (below_step HB1.out hB)
      clear hB
      go_wp2_with fail
      refine (K3.out w2).mono ?_
      rintro e w3 ⟨rfl, hB⟩
      have HB3 := Lib.hid (below_step HB2.out hB)
      clear hB
      go_wp2_with fail
      refine (K4.out w3 (tabs_from HT.out HB3.out)).mono ?_
      rintro e w4 ⟨rfl, hB⟩
      have HB4 := Lib.hid (below_step HB3.out hB)
      clear hB
      go_wp2_with fail
      refine (K5.out w4 (tabs_from HT.out HB4.out)).mono ?_
      rintro e w5 ⟨rfl, hB⟩
      have HB5 := Lib.hid (below_step HB4.out hB)
      clear hB
      go_wp2_with fail
      refine (K6.out w5 (tabs_from HT.out HB5.out)).mono ?_
      rintro e w6 ⟨v, rfl, hrow, hB⟩
      obtain ⟨A, c, rfl, hc⟩ := own_sliceN hrow
      have HB6 := Lib.hid (below_step HB5.out hB)
      clear hB hrow hc
      go_wp2
      go_ret
      exact ⟨by simp, HB6.out⟩
  obtain ⟨hi, hr⟩ := Classical.not_not.1 hm
  have c2 : (p.toList == [47]) = false := beq_eq_false_iff_ne.2 hr
  rw [checkP_ok p hi] at K5
  have hq := above_parent hi hr
  have hself := not_self hi hr
  have hal := above_len p
  have hpz : (parentP p).size ≤ 2147483648 := by have := isP_size (parent_stem hi hr).2; omega
  have K7 := Lib.hid (fun w => parent_calls p w (by omega))
  have K8 := Lib.hid (fun w => coll_calls (parentP p) w hpz)
  have K9 := Lib.hid (fun w => below_calls p p w (by omega) (by omega))
  rw [hself] at K9
  have K10 := Lib.hid (fun w => below_calls p q w (by omega) (by omega))
  have K11 := Lib.hid (fun w => below_calls q o w (by omega) (by omega))
  have K12 := Lib.hid (fun w => below_calls p o w (by omega) (by omega))
  have hall := hasTo_all (aboveP p) q
  rw [← below_is hi] at hall
  have HTr := Lib.hid (fun h1 h2 => below_trans (p := p) (q := q) (o := o) h1 h2)
  obtain ⟨l, hl⟩ : ∃ l, aboveP p = l := ⟨_, rfl⟩
  obtain ⟨d, hd⟩ : ∃ d, parentP p = d := ⟨_, rfl⟩
  obtain ⟨m, hm2⟩ : ∃ m, aboveP d = m := ⟨_, rfl⟩
  rw [hd] at K7 K8 hq
  rw [hm2] at K8 hq
  rw [hl] at K6 hall hq hal
  obtain ⟨x, hx⟩ : ∃ x, belowP p q = x := ⟨_, rfl⟩
  obtain ⟨y, hy⟩ : ∃ y, belowP q o = y := ⟨_, rfl⟩
  obtain ⟨z, hz⟩ : ∃ z, belowP p o = z := ⟨_, rfl⟩
  rw [hx] at K10 HTr hall
  rw [hy] at K11 HTr
  rw [hz] at K12 HTr
  have HX := Lib.hid hall
  have HQ := Lib.hid hq
  have hlen : m.length + 1 = l.length := by rw [hq]; simp
  have htx : texts m ++ [Value.string d] = texts l := by rw [hq]; simp [texts]
  obtain ⟨i0, hi0, hz0, hz1, hz2⟩ := info_parts info9
  have HI := Lib.hid (And.intro hi0 (And.intro hz0 (And.intro hz1 hz2)))
  clear hm hi hr hq hself hpz hall hx hy hz hl hd hm2 hi0 hz0 hz1 hz2
  go_enter Tryd.func9, Tryd.ntmps9
  go_wp2_with fail
  refine (K1.out).mono ?_
  rintro e w1 ⟨rfl, hB⟩
  have HB1 := Lib.hid (hB)
  clear hB
  go_wp2_with fail
  refine (K2.out w1).mono ?_
  rintro e w2 ⟨rfl, hB⟩
  have HB2 := Lib.hid (below_step HB1.out hB)
  clear hB
  go_wp2_with fail
  refine (K3.out w2).mono ?_
  rintro e w3 ⟨rfl, hB⟩
  have HB3 := Lib.hid (below_step HB2.out hB)
  clear hB
  go_wp2_with fail
  refine (K4.out w3 (tabs_from HT.out HB3.out)).mono ?_
  rintro e w4 ⟨rfl, hB⟩
  have HB4 := Lib.hid (below_step HB3.out hB)
  clear hB
  go_wp2_with fail
  refine (K5.out w4 (tabs_from HT.out HB4.out)).mono ?_
  rintro e w5 ⟨rfl, hB⟩
  have HB5 := Lib.hid (below_step HB4.out hB)
  clear hB
  go_wp2_with fail
  refine (K6.out w5 (tabs_from HT.out HB5.out)).mono ?_
  rintro e w6 ⟨v, rfl, hrow, hB⟩
  obtain ⟨g, c, rfl, hc⟩ := own_some hrow (by omega)
  have HB6 := Lib.hid (below_step HB5.out hB)
  have HR6 := Lib.hid hrow
  clear hB hrow
  go_wp2_with fail
  refine (K7.out w6 (tabs_from HT.out HB6.out)).mono ?_
  rintro e w7 ⟨rfl, hB⟩
  have HB7 := Lib.hid (below_step HB6.out hB)
  have HR7 := Lib.hid (own_onlyN HR6.out (Only.of_below (S := fun _ => False) hB) (fun _ _ h => h))
  clear hB
  go_wp2_with fail
  refine (K8.out w7 (tabs_from HT.out HB7.out)).mono ?_
  rintro e w8 ⟨v, rfl, hrow, hB⟩
  obtain ⟨A2, c2', rfl, hc2⟩ := own_sliceN hrow
  have HB8 := Lib.hid (below_step HB7.out hB)
  have HR8 := Lib.hid (own_onlyN HR7.out (Only.of_below (S := fun _ => False) hB) (fun _ _ h => h))
  have HM8 := Lib.hid hrow
  have hsz8 := hB.size
  clear hB hrow
  go_wp2_with (at_builtin; refine wpList_append_own _ rfl (.tmp 56) (.tmp 58) 31 rfl w7.heap.size 9 i0 (.string ⟨#[]⟩) 1 16 Tryd.underlying31 HI.out.1 HI.out.2.1 HI.out.2.2.1 HI.out.2.2.2 rfl (by decide) _ _ _ rfl (HM8.out.alloc _) ⟨w8.heap.size, 0, none⟩ 1 1 [.string d] rfl rfl (cell_one_new _ _ _) (by simp [Value.oneCell']) (by unfold maxLen; omega) (by omega) (by simp; omega) ?_; intro v' w9 hown' hgrow _; rw [hlen, htx] at hown'; obtain ⟨g', cap', rfl, hcap⟩ := own_some hown' (by omega); obtain ⟨_, hon⟩ := app_keep HM8.out hsz8 hgrow; have HB9 := Lib.hid (hon.from HB8.out (fun k hk => Nat.le_trans HB7.out.size hk)); have HR9 := Lib.hid (own_onlyG HR8.out hon (by have := own_lt HR7.out; omega)); have HM9 := Lib.hid hown'; clear hown' hgrow hon)
  refine (eq_self l (some ⟨g, 0, none⟩) (some ⟨g', 0, none⟩) c cap' w9 (by omega) hc hcap (own_reads HR9.out (by omega)).2 (own_reads HM9.out (by omega)).2).mono ?_
  rintro e w10 ⟨rfl, hB⟩
  have HB10 := Lib.hid (below_step HB9.out hB)
  have HR10 := Lib.hid (own_onlyG HR9.out (Only.of_below (S := fun _ => False) hB) (fun h => h))
  clear hB HM9 HR9 HM8 HR8 HR7 HR6
  go_wp2_with fail
  refine (K9.out w10 (tabs_from HT.out HB10.out)).mono ?_
  rintro e w11 ⟨rfl, hB⟩
  have HB11 := Lib.hid (below_step HB10.out hB)
  have hB11 := hB
  clear hB
  have HR11 := Lib.hid (own_onlyG HR10.out (Only.of_below (S := fun _ => False) hB11) (fun h => h))
  clear hB11
  go_wp2_with fail
  rename_i KK aK
  have HK := Lib.hid aK
  clear aK
  go_loop [13, 14] (fun had t => ∃ k : Nat, k ≤ l.length ∧ t = .int .i64 k ∧ had = .bool (hasTo l q k)) (fun _ t => l.length - (intOf t).toNat)
  case atStart => exact ⟨0, by omega, rfl, rfl⟩
  case round =>
    obtain ⟨k, hk, rfl, rfl⟩ := hrel
    by_cases hlt : k < l.length
    · obtain ⟨u, hu⟩ : ∃ u, l[k]? = some u := ⟨l[k], List.getElem?_eq_getElem hlt⟩
      have hcell := own_cell HR11.out hu
      have hS := hasTo_succ l q k u hu
      have HU := Lib.hid hu
      clear hu
      obtain ⟨b, hb⟩ : ∃ b, hasTo l q k = b := ⟨_, rfl⟩
      rw [hb] at hS ⊢
      obtain ⟨b2, hb2⟩ : ∃ b2, (u.toList == q.toList) = b2 := ⟨_, rfl⟩
      rw [hb2] at hS
      have HS := Lib.hid hS
      clear hS hb
      cases b with
      | true =>
        go_wp2
        exact ⟨⟨k + 1, hlt, by go_num, by rw [HS.out]; rfl⟩, by simp [intOf]; omega⟩
      | false =>
        go_wp2
        exact ⟨⟨k + 1, hlt, by go_num, by rw [HS.out]; rfl⟩, by simp [intOf]; omega⟩
    · obtain rfl : k = l.length := by omega
      rw [HX.out]
      go_wp2
      refine HK.out _ _ ?_
      go_wp2_with fail
      refine (K10.out w11 (tabs_from HT.out HB11.out)).mono ?_
      rintro e w12 ⟨rfl, hB⟩
      have HB12 := Lib.hid (below_step HB11.out hB)
      clear hB
      go_wp2_with fail
      refine (K11.out w12 (tabs_from HT.out HB12.out)).mono ?_
      rintro e w13 ⟨rfl, hB⟩
      have HB13 := Lib.hid (below_step HB12.out hB)
      clear hB
      go_wp2_with fail
      refine (K12.out w13 (tabs_from HT.out HB13.out)).mono ?_
      rintro e w14 ⟨rfl, hB⟩
      have HB14 := Lib.hid (below_step HB13.out hB)
      clear hB K1 K2 K3 K4 K5 K6 K7 K8 K9 K10 K11 K12 HX
      cases x <;> cases y <;> cases z
      case true.true.false => exact absurd (HTr.out rfl rfl) (by decide)
      all_goals
        go_wp2
        go_ret
        exact ⟨by simp, HB14.out⟩
end Go.Proofs.YtcilfjmiiodfgaaDoor.Q
