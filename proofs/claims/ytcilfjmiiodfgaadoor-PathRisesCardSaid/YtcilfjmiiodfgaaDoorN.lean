import Derived.Test.YtcilfjmiiodfgaaDoorK
namespace Go.Proofs.YtcilfjmiiodfgaaDoor.Q
open Go.RowKit Go.Shelf Go.Proofs.YtcilfjmiiodfgaaDoorW.PrintWords Go.Proofs.YtcilfjmiiodfgaaDoor.Pr
set_option linter.unusedVariables false
set_option linter.unusedSimpArgs false
attribute [local go_sem] Oper.semAt_some

theorem toList_inj {s t : ByteArray} (h : s.toList = t.toList) : s = t := by
  rw [Lib.toList_data, Lib.toList_data] at h
  cases s; cases t
  exact congrArg _ (Array.toList_inj.1 h)
/-! ABOVE -/
def ups (p : ByteArray) (i : Nat) : List ByteArray := if h : i < p.size then (if (p.get! i).toNat = 47 then p.extract 0 i :: ups p (i + 1) else ups p (i + 1)) else []
termination_by p.size - i
theorem ups_out {p : ByteArray} {i : Nat} (h : ¬ i < p.size) : ups p i = [] := by rw [ups, dif_neg h]
theorem ups_yes {p : ByteArray} {i : Nat} (h : i < p.size) (k : (p.get! i).toNat = 47) : ups p i = p.extract 0 i :: ups p (i + 1) := by rw [ups, dif_pos h, if_pos k]
theorem ups_no {p : ByteArray} {i : Nat} (h : i < p.size) (k : ¬ (p.get! i).toNat = 47) : ups p i = ups p (i + 1) := by rw [ups, dif_pos h, if_neg k]
def aboveP (p : ByteArray) : List ByteArray := if isP p = true ∧ ¬ p.toList = [47] then rootB :: ups p 1 else []
theorem ups_len (p : ByteArray) : ∀ n i, p.size - i ≤ n → (ups p i).length ≤ n := by
  intro n
  induction n with
  | zero => intro i hi; rw [ups_out (by omega)]; simp
  | succ n ih =>
    intro i hi
    by_cases h : i < p.size
    · have := ih (i + 1) (by omega)
      by_cases k : (p.get! i).toNat = 47
      · rw [ups_yes h k]; simp; omega
      · rw [ups_no h k]; omega
    · rw [ups_out h]; simp
theorem above_len (p : ByteArray) : (aboveP p).length ≤ 64 := by
  unfold aboveP
  split
  · rename_i h
    have := isP_size h.1
    have := isP_two h.1 h.2
    have := ups_len p (p.size - 1) 1 (by omega)
    simp; omega
  · simp
theorem mem_ups {p q : ByteArray} : ∀ n i, p.size - i ≤ n → (q ∈ ups p i ↔ ∃ j, i ≤ j ∧ j < p.size ∧ (p.get! j).toNat = 47 ∧ q = p.extract 0 j) := by
  intro n
  induction n with
  | zero => intro i hi; rw [ups_out (by omega)]; simp; omega
  | succ n ih =>
    intro i hi
    by_cases h : i < p.size
    · have := ih (i + 1) (by omega)
      by_cases k : (p.get! i).toNat = 47
      · rw [ups_yes h k, List.mem_cons, this]
        constructor
        · rintro (rfl | ⟨j, h1, h2⟩)
          · exact ⟨i, Nat.le_refl _, h, k, rfl⟩
          · exact ⟨j, by omega, h2⟩
        · rintro ⟨j, h1, h2, h3, h4⟩
          by_cases e : j = i
          · subst e; exact .inl h4
          · exact .inr ⟨j, by omega, h2, h3, h4⟩
      · rw [ups_no h k, this]
        constructor
        · rintro ⟨j, h1, h2⟩; exact ⟨j, by omega, h2⟩
        · rintro ⟨j, h1, h2, h3, h4⟩
          by_cases e : j = i
          · subst e; exact absurd h3 k
          · exact ⟨j, by omega, h2, h3, h4⟩
    · rw [ups_out h]; simp; omega
theorem refAbove_l0 (p : ByteArray) (hs : p.size ≤ 4294967296) : ∀ n i k acc, p.size - i ≤ n → 1 + n ≤ k → acc.length ≤ i → lagoonref05_Above.l0 k p acc (i : Nat) = some (acc ++ ups p i) := by
  intro n
  induction n with
  | zero =>
    intro i k acc hi hk ha
    obtain ⟨k, rfl⟩ : ∃ j, k = j + 1 := ⟨k - 1, by omega⟩
    rw [lagoonref05_Above.l0, if_neg (by omega), ups_out (by omega)]; simp
  | succ n ih =>
    intro i k acc hi hk ha
    obtain ⟨k, rfl⟩ : ∃ j, k = j + 1 := ⟨k - 1, by omega⟩
    by_cases h : i < p.size
    · rw [lagoonref05_Above.l0, if_pos (by omega), if_pos (by omega), bt_get p i h, w64 (by omega) (by omega)]
      by_cases h2 : (p.get! i).toNat = 47
      · rw [if_pos (by omega), if_pos (by omega), if_pos (by omega), ups_yes h h2]
        have := ih (i + 1) k (acc ++ [p.extract 0 i]) (by omega) (by omega) (by simp; omega)
        rw [List.append_assoc] at this
        exact this
      · rw [if_neg (by omega), ups_no h h2]
        exact ih (i + 1) k acc (by omega) (by omega) (by omega)
    · rw [lagoonref05_Above.l0, if_neg (by omega), ups_out h]; simp
theorem refAbove_f (p : ByteArray) (hs : p.size ≤ 2147483648) (k : Nat) (hk : 4 * p.size + 60 ≤ k) : lagoonref05_Above.f k p = some (aboveP p) := by
  obtain ⟨k, rfl⟩ : ∃ j, k = j + 1 := ⟨k - 1, by omega⟩
  have hT : lagoonref05_Above.j0 (k + 1) p [] true = some [] := by rw [lagoonref05_Above.j0, if_pos rfl]
  have hF : lagoonref05_Above.j0 (k + 1) p [] false = some (rootB :: ups p 1) := by
    rw [lagoonref05_Above.j0, if_neg (by simp), if_pos (by simp)]
    exact refAbove_l0 p (by omega) p.size 1 k [rootB] (by omega) (by omega) (by simp)
  unfold lagoonref05_Above.f aboveP
  rw [is_f p (by omega) _ (by omega), Option.bind_some]
  cases hi : isP p with
  | false => rw [if_neg (by simp), hT, if_neg (by simp)]
  | true =>
    rw [if_pos rfl]
    by_cases hr : p.toList = [47]
    · rw [beq_iff_eq.mpr hr, hT, if_neg (fun x => x.2 hr)]
    · rw [beq_eq_false_iff_ne.mpr hr, hF, if_pos ⟨rfl, hr⟩]
theorem refAbove_calls (p : ByteArray) (w : World) (hs : p.size ≤ 2147483648) : Calls Tryd.prog 26 #[.string p] w fun e w' => ∃ v0_ : Value, e = .returned v0_ ∧ Kd.R Kd.string 9 w' w.heap.size (fun _ => True) v0_ (aboveP p) ∧ Below w.heap.size w w' :=
  lagoonref05_Above.calls (4 * p.size + 60) p _ w (refAbove_f p hs _ (Nat.le_refl _))

/-! ABOVE'S ITERATOR -/
def AboveNext (p : ByteArray) (pre : List ByteArray) (x : ByteArray) : Prop := ∃ rest, aboveP p = pre ++ x :: rest
set_option maxRecDepth 100000 in
set_option maxHeartbeats 4000000 in
theorem above_gives (n : Nat) (hn : 2 ≤ n) (b : Nat) (p : ByteArray) (hs : p.size ≤ 2147483648) :
    GivesZ Fence.wide n Tryd.prog 40 #[.pointer (some ⟨b, 0, none⟩)] encT (fun k => k = b) (fun _ => False) (aboveP p).length (AboveNext p) (fun xs => xs = aboveP p) (fun _ => True)
      (fun W => W.heap[b]? = some (.cells #[.string p] 9 (0, 0)) ∧ Tabs W) :=
  fun l J Jx W ⟨hb0, hT⟩ hZ hJ hJx hJz hY h0 => by
    have HJ := Lib.hid hJ
    have HY := Lib.hid hY
    have x0 : W.cell? ⟨b, 0, none⟩ = some (.string p) := (cell_of_row W b 0 _ _ _ hb0).trans rfl
    have KI := is_calls p W hs hT
    have H0 := Lib.hid (And.intro h0 hb0)
    clear hJ hJx hJz hY h0 hb0 hT
    by_cases hok : isP p = true ∧ ¬ p.toList = [47]
    · have hall : aboveP p = rootB :: ups p 1 := by unfold aboveP; rw [if_pos hok]
      rw [hok.1] at KI
      have HK := Lib.hid KI
      have c1 : (p.toList == [47]) = false := beq_eq_false_iff_ne.mpr hok.2
      have HA := Lib.hid hall
      have h2 := isP_two hok.1 hok.2
      clear KI hall hok
      refine callsIn_of_wp Tryd.func40 rfl trivial ?_ rfl
      simp only [Tryd.ntmps40, List.size_toArray, List.length_cons, List.length_nil, Nat.reduceAdd, Nat.reduceSub, Array.replicate_succ, Array.replicate_zero, List.push_toArray, List.append_toArray, List.nil_append, List.cons_append]
      gi_wp2_with fail
      refine ⟨trivial, fun _ => by omega, (callsIn_wide.2 HK.out).mono ?_⟩
      rintro e w1 ⟨rfl, hB⟩
      have hb1 := (hB.block b (Array.getElem?_eq_some_iff.1 H0.out.2).1).trans H0.out.2
      have x1 : w1.cell? ⟨b, 0, none⟩ = some (.string p) := (cell_of_row w1 b 0 _ _ _ hb1).trans rfl
      have hj1 := HJ.out [] W w1 none H0.out.1 (grown_of_below hB) (fun r e => by cases e)
      obtain ⟨fn, tmps, assign, body, hy, hR⟩ := HY.out [] rootB w1 hj1 (by rw [HA.out]; simp) ⟨_, HA.out⟩
      simp only [encT, rootB] at hy
      have HR := Lib.hid hR
      have HB1 := Lib.hid hb1
      clear hB hb1 hj1 hR HK x0
      gi_wp2_with fail
      refine ⟨fun _ => by omega, HR.out.mono ?_⟩
      rintro e W3 (⟨rfl, hJ3, hk3⟩ | ⟨rfl, hJx3⟩)
      · have hb3 := hk3.blk HB1.out (fun h => h rfl)
        have H3 := Lib.hid (And.intro hJ3 hb3)
        clear hJ3 hk3 hb3 hy x1
        gi_wp2_with fail
        gi_loopw [3] (fun i wr => ∃ (k : Nat) (pre : List ByteArray), 1 ≤ k ∧ k ≤ p.size ∧ i = .int .i64 k ∧ Hid (aboveP p = pre ++ ups p k) ∧ Hid (J pre wr ∧ wr.heap[b]? = some (.cells #[.string p] 9 (0, 0)))) (fun i _ => p.size - (intOf i).toNat)
        case atStart => exact ⟨1, [rootB], by omega, by omega, rfl, Lib.hid (by rw [HA.out]; rfl), H3⟩
        case round =>
          clear H3
          obtain ⟨k, pre, hk1, hk2, rfl, HU, T⟩ := hrel
          have x0 : wr.cell? ⟨b, 0, none⟩ = some (.string p) := (cell_of_row wr b 0 _ _ _ T.out.2).trans rfl
          by_cases hlt : k < p.size
          · have hg := Utf8W.get!_of_lt p k hlt
            by_cases h47 : (p.get! k).toNat = 47
            · have hbt : ∀ h : k < p.size, (((p[k]'h).toNat : Int) == 47) = true := fun h => by rw [hg] at h47; rw [beq_iff_eq]; omega
              have hall : aboveP p = pre ++ p.extract 0 k :: ups p (k + 1) := by rw [HU.out, ups_yes hlt h47]
              obtain ⟨fn, tmps, assign, body, hy, hR⟩ := HY.out pre (p.extract 0 k) wr T.out.1 (by rw [hall]; simp) ⟨_, hall⟩
              simp only [encT] at hy
              have HR := Lib.hid hR
              have HAll := Lib.hid hall
              clear hg h47 hall hR
              gi_wp2_with fail
              refine ⟨fun _ => by omega, HR.out.mono ?_⟩
              rintro e W4 (⟨rfl, hJ4, hk4⟩ | ⟨rfl, hJx4⟩)
              · have H4 := Lib.hid (And.intro hJ4 (hk4.blk T.out.2 (fun h => h rfl)))
                clear hJ4 hk4 hy x0
                gi_wp2
                go_roundw
                case rel => exact ⟨k + 1, pre ++ [p.extract 0 k], by omega, by omega, by go_num, Lib.hid (by rw [HAll.out]; simp), H4⟩
                case measure => simp [intOf]; omega
              · have H4 := Lib.hid hJx4
                clear hJx4 hy x0
                gi_wp2
                refine bodyPost_ret (results_none rfl _ _ _) rfl ?_
                exact ⟨⟨_, rfl⟩, .inr ⟨_, trivial, H4.out⟩⟩
            · have hbt : ∀ h : k < p.size, (((p[k]'h).toNat : Int) == 47) = false := fun h => by rw [hg] at h47; rw [beq_eq_false_iff_ne]; omega
              have HAll := Lib.hid (show aboveP p = pre ++ ups p (k + 1) by rw [HU.out, ups_no hlt h47])
              clear hg h47
              gi_wp2
              refine ⟨fun _ h => (by cases h), ?_⟩
              gi_wp2
              go_roundw
              case rel => exact ⟨k + 1, pre, by omega, by omega, by go_num, HAll, T⟩
              case measure => simp [intOf]; omega
          · gi_wp2
            go_end0
            exact ⟨⟨_, rfl⟩, .inl ⟨_, by rw [HU.out, ups_out hlt, List.append_nil], T.out.1⟩⟩
      · have H3 := Lib.hid hJx3
        clear hJx3 hy x1
        gi_wp2
        refine bodyPost_ret (results_none rfl _ _ _) rfl ?_
        exact ⟨⟨_, rfl⟩, .inr ⟨_, trivial, H3.out⟩⟩
    · have hall : aboveP p = [] := by unfold aboveP; rw [if_neg hok]
      have HA := Lib.hid hall
      cases hi : isP p with
      | false =>
        rw [hi] at KI
        have HK := Lib.hid KI
        clear KI hall hok hi
        refine callsIn_of_wp Tryd.func40 rfl trivial ?_ rfl
        simp only [Tryd.ntmps40, List.size_toArray, List.length_cons, List.length_nil, Nat.reduceAdd, Nat.reduceSub, Array.replicate_succ, Array.replicate_zero, List.push_toArray, List.append_toArray, List.nil_append, List.cons_append]
        gi_wp2_with fail
        refine ⟨trivial, fun _ => by omega, (callsIn_wide.2 HK.out).mono ?_⟩
        rintro e w1 ⟨rfl, hB⟩
        have hj1 := Lib.hid (HJ.out [] W w1 none H0.out.1 (grown_of_below hB) (fun r e => by cases e))
        clear hB HK x0
        gi_wp2
        refine ⟨fun _ h => (by cases h), ?_⟩
        gi_wp2
        refine bodyPost_ret (results_none rfl _ _ _) rfl ?_
        exact ⟨⟨_, rfl⟩, .inl ⟨_, HA.out.symm, hj1.out⟩⟩
      | true =>
        have hr : p.toList = [47] := by
          by_cases h : p.toList = [47]
          · exact h
          · exact absurd ⟨hi, h⟩ hok
        rw [hi] at KI
        have HK := Lib.hid KI
        have c1 : (p.toList == [47]) = true := beq_iff_eq.mpr hr
        clear KI hall hok hi hr
        refine callsIn_of_wp Tryd.func40 rfl trivial ?_ rfl
        simp only [Tryd.ntmps40, List.size_toArray, List.length_cons, List.length_nil, Nat.reduceAdd, Nat.reduceSub, Array.replicate_succ, Array.replicate_zero, List.push_toArray, List.append_toArray, List.nil_append, List.cons_append]
        gi_wp2_with fail
        refine ⟨trivial, fun _ => by omega, (callsIn_wide.2 HK.out).mono ?_⟩
        rintro e w1 ⟨rfl, hB⟩
        have hj1 := Lib.hid (HJ.out [] W w1 none H0.out.1 (grown_of_below hB) (fun r e => by cases e))
        have x1 := pw_cell_below hB x0
        clear hB HK x0
        gi_wp2
        refine ⟨fun _ h => (by cases h), ?_⟩
        gi_wp2
        refine bodyPost_ret (results_none rfl _ _ _) rfl ?_
        exact ⟨⟨_, rfl⟩, .inl ⟨_, HA.out.symm, hj1.out⟩⟩
end Go.Proofs.YtcilfjmiiodfgaaDoor.Q
