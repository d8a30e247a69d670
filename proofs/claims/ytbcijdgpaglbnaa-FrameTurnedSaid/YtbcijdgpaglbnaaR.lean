import Derived.Test.YtbcijdgpaglbnaaO
namespace Go.Proofs.Ytbcijdgpaglbnaa.Q
open Go.RowKit Go.Proofs.YtbcijdgpaglbnaaW.PrintWords Go.Deep Go.Sort
set_option linter.unusedVariables false
set_option linter.unusedSimpArgs false

/-! PLAIN LAWS: FRAMES JOINED -/
def pos (Ms : List (List Nat)) (i : Nat) : Nat := (joinL (Ms.take i)).length
theorem pos_zero (Ms : List (List Nat)) : pos Ms 0 = 0 := by simp [pos, joinL]
theorem take_snoc_getD {α : Type} (d : α) (Ms : List α) (i : Nat) (h : i < Ms.length) : Ms.take (i + 1) = Ms.take i ++ [Ms.getD i d] := by
  rw [List.take_add_one]
  simp [List.getD_eq_getElem?_getD, h]
theorem drop_cons_getD {α : Type} (d : α) (Ms : List α) (i : Nat) (h : i < Ms.length) : Ms.drop i = Ms.getD i d :: Ms.drop (i + 1) := by
  rw [List.drop_eq_getElem_cons h]
  simp [List.getD_eq_getElem?_getD, h]
theorem joinL_app (a b : List (List Nat)) : joinL (a ++ b) = joinL a ++ joinL b := by simp [joinL]
theorem joinL_cons (M : List Nat) (b : List (List Nat)) : joinL (M :: b) = frameB M ++ joinL b := by simp [joinL]
theorem pos_succ (Ms : List (List Nat)) (i : Nat) (h : i < Ms.length) : pos Ms (i + 1) = pos Ms i + (Ms.getD i []).length + 9 := by
  unfold pos
  rw [take_snoc_getD [] Ms i h, joinL_app, List.length_append, joinL_cons, List.length_append, frame_length]
  simp [joinL]; omega
theorem pos_all (Ms : List (List Nat)) : pos Ms Ms.length = (joinL Ms).length := by simp [pos]
theorem join_drop (Ms : List (List Nat)) (i : Nat) : (joinL Ms).drop (pos Ms i) = joinL (Ms.drop i) := by
  conv => lhs; arg 2; rw [← List.take_append_drop i Ms, joinL_app]
  unfold pos
  rw [List.drop_left]
theorem join_drop_cons (Ms : List (List Nat)) (i : Nat) (h : i < Ms.length) : (joinL Ms).drop (pos Ms i) = frameB (Ms.getD i []) ++ joinL (Ms.drop (i + 1)) := by
  rw [join_drop, drop_cons_getD [] Ms i h, joinL_cons]
theorem pos_mono (Ms : List (List Nat)) {i j : Nat} (h : i ≤ j) (hj : j ≤ Ms.length) : pos Ms i + 9 * (j - i) ≤ pos Ms j := by
  induction j with
  | zero => obtain rfl : i = 0 := by omega
            simp
  | succ j ih =>
    by_cases e : i = j + 1
    · subst e; simp
    · have := ih (by omega) (by omega)
      rw [pos_succ Ms j (by omega)]; omega
theorem pos_le (Ms : List (List Nat)) (i : Nat) (hi : i ≤ Ms.length) : pos Ms i ≤ (joinL Ms).length := by
  have := pos_mono Ms hi (Nat.le_refl _); rw [pos_all] at this; omega
def okL (Ms : List (List Nat)) : Prop := ∀ i, i < Ms.length → 1 ≤ (Ms.getD i []).length ∧ (Ms.getD i []).length ≤ 1048576
/-- L begins with the first n frames of Ms, and no more -/
structure Begins (Ms : List (List Nat)) (n : Nat) (L : List Nat) : Prop where
  le : n ≤ Ms.length
  yes : ∀ k, k < n → ∃ R, L.drop (pos Ms k) = frameB (Ms.getD k []) ++ R
  no : firstB (L.drop (pos Ms n)) = none
theorem Begins.at {Ms : List (List Nat)} {n : Nat} {L : List Nat} (h : Begins Ms n L) (ok : okL Ms) : ∀ k, k ≤ n → posTo L k = pos Ms k := by
  intro k
  induction k with
  | zero => intro _; rw [pos_zero]; rfl
  | succ k ih =>
    intro hk
    have h1 := ih (by omega)
    obtain ⟨R, hR⟩ := h.yes k (by omega)
    have hb : bodyN L k = some (Ms.getD k []).length := by
      unfold bodyN; rw [h1, hR]
      exact frame_first _ _ (ok k (by have := h.le; omega)).1 (ok k (by have := h.le; omega)).2
    rw [posTo_succ hb, pos_succ Ms k (by have := h.le; omega), h1]; omega
theorem Begins.body {Ms : List (List Nat)} {n : Nat} {L : List Nat} (h : Begins Ms n L) (ok : okL Ms) (k : Nat) (hk : k < n) : bodyN L k = some (Ms.getD k []).length := by
  obtain ⟨R, hR⟩ := h.yes k hk
  unfold bodyN; rw [h.at ok k (by omega), hR]
  exact frame_first _ _ (ok k (by have := h.le; omega)).1 (ok k (by have := h.le; omega)).2
theorem Begins.cnt {Ms : List (List Nat)} {n : Nat} {L : List Nat} (h : Begins Ms n L) (ok : okL Ms) : cnt L = n :=
  cnt_is L n (by unfold bodyN; rw [h.at ok n (Nat.le_refl _)]; exact h.no) (fun i hi => by rw [h.body ok i hi]; rfl)
theorem Begins.frame {Ms : List (List Nat)} {n : Nat} {L : List Nat} (h : Begins Ms n L) (ok : okL Ms) (k : Nat) (hk : k < n) : frameAt L k = (pos Ms k, (Ms.getD k []).length) := by
  simp [frameAt, h.at ok k (by omega), h.body ok k hk]
theorem Begins.is {Ms : List (List Nat)} {n : Nat} {L : List Nat} (h : Begins Ms n L) (k : Nat) (hk : k < n) : bodyAt L (pos Ms k) (Ms.getD k []).length = Ms.getD k [] := by
  obtain ⟨R, hR⟩ := h.yes k hk
  unfold bodyAt; rw [hR]; exact frame_body _ _

/-! CUT OFF -/
theorem firstB_cut (M R : List Nat) (c : Nat) (h2 : M.length ≤ 1048576) (hc : c < M.length + 9) : firstB ((frameB M ++ R).take c) = none := by
  by_cases h8 : c ≤ 8
  · exact first_nil _ (by rw [List.length_take]; omega)
  · have hh : headN ((frameB M ++ R).take c) = M.length := by
      rw [← frame_head M R (by omega)]
      unfold headN
      simp only [List.getD_eq_getElem?_getD, List.getElem?_take]
      rw [if_pos (by omega), if_pos (by omega), if_pos (by omega), if_pos (by omega)]
    unfold firstB
    rw [if_neg]
    rw [hh]
    rintro ⟨_, _, _, h, _⟩
    rw [List.length_take] at h; omega
/-- how many frames end by a place -/
def fits (Ms : List (List Nat)) (cut n : Nat) : Prop := n ≤ Ms.length ∧ pos Ms n ≤ cut ∧ (n < Ms.length → cut < pos Ms (n + 1))
theorem torn_begins (Ms : List (List Nat)) (ok : okL Ms) (cut n : Nat) (hc : cut ≤ (joinL Ms).length) (h : fits Ms cut n) : Begins Ms n ((joinL Ms).take cut) where
  le := h.1
  yes := fun k hk => by
    have h1 := pos_mono Ms (show k + 1 ≤ n by omega) h.1
    have h2 := pos_succ Ms k (by have := h.1; omega)
    have h3 := h.2.1
    refine ⟨(joinL (Ms.drop (k + 1))).take (cut - pos Ms k - (frameB (Ms.getD k [])).length), ?_⟩
    rw [List.drop_take, join_drop_cons Ms k (by have := h.1; omega), List.take_append, List.take_of_length_le]
    rw [frame_length]; omega
  no := by
    rw [List.drop_take]
    by_cases e : n < Ms.length
    · rw [join_drop_cons Ms n e]
      have h1 := h.2.2 e
      rw [pos_succ Ms n e] at h1
      have h2 := h.2.1
      exact firstB_cut _ _ _ (ok n e).2 (by omega)
    · obtain rfl : n = Ms.length := by have := h.1; omega
      rw [join_drop, List.drop_of_length_le (Nat.le_refl _)]
      exact first_nil _ (by simp [joinL])
theorem torn_one (Ms : List (List Nat)) (ok : okL Ms) (cut n : Nat) (hc : cut ≤ (joinL Ms).length) (h : fits Ms cut n) : (oneB ((joinL Ms).take cut)).isSome = decide (n = 1 ∧ pos Ms n = cut) := by
  have hB := torn_begins Ms ok cut n hc h
  have hl : ((joinL Ms).take cut).length = cut := by rw [List.length_take]; omega
  have h0 : firstB ((joinL Ms).take cut) = bodyN ((joinL Ms).take cut) 0 := by simp [bodyN, posTo]
  by_cases e : n = 0
  · subst e
    have hn := hB.no
    rw [pos_zero, List.drop_zero] at hn
    unfold oneB; rw [hn]; simp
  · have hb := hB.body ok 0 (by omega)
    have hm := pos_mono Ms (show 1 ≤ n by omega) h.1
    have h1 := pos_succ Ms 0 (by have := h.1; omega)
    rw [pos_zero] at h1
    have h2 := h.2.1
    unfold oneB; rw [h0, hb]
    simp only [hl]
    by_cases e1 : cut = 9 + (Ms.getD 0 []).length
    · rw [if_pos e1]
      have : n = 1 := by
        have h3 := pos_mono Ms (show 1 ≤ n by omega) h.1
        simp only [Nat.zero_add] at h1
        omega
      subst this
      simp only [Nat.zero_add] at h1
      simp; omega
    · rw [if_neg e1]
      simp only [Option.isSome_none, Bool.false_eq, decide_eq_false_iff_not, not_and]
      rintro rfl
      simp only [Nat.zero_add] at h1
      omega

/-! ONE BYTE TURNED -/
def sumTo (L : List Nat) (k : Nat) : Nat := (L.take k).sum
theorem sumTo_succ (L : List Nat) (k : Nat) : sumTo L (k + 1) = sumTo L k + L.getD k 0 := by
  unfold sumTo
  by_cases h : k < L.length
  · rw [take_snoc_getD 0 L k h]; simp
  · rw [List.take_of_length_le (by omega), List.take_of_length_le (by omega)]
    simp [List.getD_eq_getElem?_getD, List.getElem?_eq_none (Nat.le_of_not_lt h)]
theorem lowTo_sum (L : List Nat) (k : Nat) : lowTo L k = (1 + sumTo L k) % 65521 := by
  induction k with
  | zero => simp [lowTo, sumTo]
  | succ k ih => rw [lowTo, ih, sumTo_succ]; omega
theorem sum_set (L : List Nat) (i y : Nat) (h : i < L.length) : (L.set i y).sum + L.getD i 0 = L.sum + y := by
  induction L generalizing i with
  | nil => simp at h
  | cons a L ih =>
    cases i with
    | zero => simp; omega
    | succ i => have := ih i (by simpa using h); simp at this ⊢; omega
theorem low_turned (L : List Nat) (i y : Nat) (h : i < L.length) (hb : L.getD i 0 < 256) (hy : y < 256) (hne : y ≠ L.getD i 0) : sumB (L.set i y) ≠ sumB L := by
  have h1 := lowTo_sum (L.set i y) L.length
  have h2 := lowTo_sum L L.length
  have h3 := sum_set L i y h
  have e1 : sumTo (L.set i y) L.length = (L.set i y).sum := by unfold sumTo; rw [List.take_of_length_le (by simp)]
  have e2 : sumTo L L.length = L.sum := by unfold sumTo; rw [List.take_of_length_le (Nat.le_refl _)]
  rw [e1] at h1
  rw [e2] at h2
  have l1 := lowTo_lt (L.set i y) L.length
  have l2 := lowTo_lt L L.length
  unfold sumB
  rw [List.length_set]
  omega
theorem getD_set_ne {α : Type} (d : α) (L : List α) (i j : Nat) (y : α) (h : i ≠ j) : (L.set i y).getD j d = L.getD j d := by
  simp [List.getD_eq_getElem?_getD, List.getElem?_set_ne h]
theorem getD_set_eq {α : Type} (d : α) (L : List α) (i : Nat) (y : α) (h : i < L.length) : (L.set i y).getD i d = y := by
  simp [List.getD_eq_getElem?_getD, h]
theorem eq4_iff (f g : Nat → Int) : eq4 f g = true ↔ f 0 = g 0 ∧ f 1 = g 1 ∧ f 2 = g 2 ∧ f 3 = g 3 := by simp [eq4]
theorem firstB_turned (M R : List Nat) (hb : Bytes M) (h2 : M.length ≤ 1048576) (off y : Nat) (h4 : 4 ≤ off) (ho : off < M.length + 9) (hy : y < 256) (hne : y ≠ (frameB M ++ R).getD off 0) :
    firstB ((frameB M ++ R).set off y) = none := by
  have hlen : (frameB M ++ R).length = M.length + 9 + R.length := by rw [List.length_append, frame_length]
  have hh : headN ((frameB M ++ R).set off y) = M.length := by
    rw [← frame_head M R (by omega)]
    unfold headN
    rw [getD_set_ne _ _ _ _ _ (by omega), getD_set_ne _ _ _ _ _ (by omega), getD_set_ne _ _ _ _ _ (by omega), getD_set_ne _ _ _ _ _ (by omega)]
  unfold firstB
  rw [if_neg]
  rw [hh]
  rintro ⟨_, _, _, _, h66, hs⟩
  have hs' := (eq4_iff _ _).1 hs
  by_cases e1 : off < 8
  · have hbody : bodyOf ((frameB M ++ R).set off y) M.length = M := by
      unfold bodyOf
      rw [List.drop_set, if_pos e1]
      exact frame_body M R
    rw [hbody] at hs'
    obtain ⟨s0, s1, s2, s3⟩ := hs'
    have : off = 4 + 0 ∨ off = 4 + 1 ∨ off = 4 + 2 ∨ off = 4 + 3 := by omega
    rcases this with rfl | rfl | rfl | rfl
    · rw [getD_set_eq _ _ _ _ (by omega)] at s0; rw [frame_sum M R 0 (by omega)] at hne; exact hne (by exact_mod_cast s0)
    · rw [getD_set_eq _ _ _ _ (by omega)] at s1; rw [frame_sum M R 1 (by omega)] at hne; exact hne (by exact_mod_cast s1)
    · rw [getD_set_eq _ _ _ _ (by omega)] at s2; rw [frame_sum M R 2 (by omega)] at hne; exact hne (by exact_mod_cast s2)
    · rw [getD_set_eq _ _ _ _ (by omega)] at s3; rw [frame_sum M R 3 (by omega)] at hne; exact hne (by exact_mod_cast s3)
  · by_cases e2 : off = 8 + M.length
    · subst e2
      rw [getD_set_eq _ _ _ _ (by omega)] at h66
      rw [frame_last] at hne
      exact hne h66
    · obtain ⟨k, rfl⟩ : ∃ k, off = 8 + k := ⟨off - 8, by omega⟩
      have hbody : bodyOf ((frameB M ++ R).set (8 + k) y) M.length = M.set k y := by
        unfold bodyOf
        rw [List.drop_set, if_neg (by omega), Nat.add_sub_cancel_left, List.take_set]
        have := frame_body M R
        unfold bodyOf at this
        rw [this]
      have hold : (frameB M ++ R).getD (8 + k) 0 = M.getD k 0 := by
        have h := bodyOf_getD (frameB M ++ R) M.length k (by omega)
        rw [frame_body] at h
        exact h.symm
      rw [hold] at hne
      rw [hbody] at hs'
      obtain ⟨s0, s1, s2, s3⟩ := hs'
      rw [getD_set_ne _ _ _ _ _ (by omega), frame_sum M R 0 (by omega)] at s0
      rw [getD_set_ne _ _ _ _ _ (by omega), frame_sum M R 1 (by omega)] at s1
      rw [getD_set_ne _ _ _ _ _ (by omega), frame_sum M R 2 (by omega)] at s2
      rw [getD_set_ne _ _ _ _ _ (by omega), frame_sum M R 3 (by omega)] at s3
      refine low_turned M k y (by omega) (hb k) hy hne ?_
      rw [← num_four (sumB (M.set k y)) (sumB_lt _), ← num_four (sumB M) (sumB_lt _)]
      have t0 : byteOf (sumB M) 0 = byteOf (sumB (M.set k y)) 0 := by exact_mod_cast s0
      have t1 : byteOf (sumB M) 1 = byteOf (sumB (M.set k y)) 1 := by exact_mod_cast s1
      have t2 : byteOf (sumB M) 2 = byteOf (sumB (M.set k y)) 2 := by exact_mod_cast s2
      have t3 : byteOf (sumB M) 3 = byteOf (sumB (M.set k y)) 3 := by exact_mod_cast s3
      rw [t0, t1, t2, t3]
theorem turned_begins (Ms : List (List Nat)) (ok : okL Ms) (hb : ∀ i, Bytes (Ms.getD i [])) (n place y : Nat) (hn : n < Ms.length) (h1 : pos Ms n + 4 ≤ place) (h2 : place < pos Ms (n + 1)) (hy : y < 256) (hne : y ≠ (joinL Ms).getD place 0) :
    Begins Ms n ((joinL Ms).set place y) where
  le := by omega
  yes := fun k hk => by
    have h3 := pos_mono Ms (show k + 1 ≤ n by omega) (by omega)
    have h4 := pos_succ Ms k (by omega)
    rw [List.drop_set, if_neg (by omega), join_drop_cons Ms k (by omega), List.set_append_right _ _ (by rw [frame_length]; omega)]
    exact ⟨_, rfl⟩
  no := by
    have h4 := pos_succ Ms n hn
    have hd : (joinL Ms).getD place 0 = (frameB (Ms.getD n []) ++ joinL (Ms.drop (n + 1))).getD (place - pos Ms n) 0 := by
      rw [← join_drop_cons Ms n hn]
      simp only [List.getD_eq_getElem?_getD, List.getElem?_drop]
      rw [show pos Ms n + (place - pos Ms n) = place by omega]
    rw [hd] at hne
    rw [List.drop_set, if_neg (by omega), join_drop_cons Ms n hn]
    exact firstB_turned _ _ (hb n) (ok n hn).2 _ y (by omega) (by omega) hy hne
theorem turned_one (Ms : List (List Nat)) (ok : okL Ms) (hb : ∀ i, Bytes (Ms.getD i [])) (n place y : Nat) (hn : n < Ms.length) (h1 : pos Ms n + 4 ≤ place) (h2 : place < pos Ms (n + 1)) (hy : y < 256) (hne : y ≠ (joinL Ms).getD place 0) :
    oneB ((((joinL Ms).set place y).drop (pos Ms n)).take ((Ms.getD n []).length + 9)) = none := by
  have h4 := pos_succ Ms n hn
  have hd : (joinL Ms).getD place 0 = (frameB (Ms.getD n []) ++ []).getD (place - pos Ms n) 0 := by
    have : (joinL Ms).getD place 0 = ((joinL Ms).drop (pos Ms n)).getD (place - pos Ms n) 0 := by
      simp only [List.getD_eq_getElem?_getD, List.getElem?_drop]
      rw [show pos Ms n + (place - pos Ms n) = place by omega]
    rw [this, join_drop_cons Ms n hn]
    simp only [List.getD_eq_getElem?_getD]
    rw [List.append_nil, List.getElem?_append_left (by rw [frame_length]; simp only [List.getD_eq_getElem?_getD] at h4; omega)]
  rw [hd] at hne
  have e : (((joinL Ms).set place y).drop (pos Ms n)).take ((Ms.getD n []).length + 9) = (frameB (Ms.getD n []) ++ []).set (place - pos Ms n) y := by
    rw [List.drop_set, if_neg (by omega), join_drop_cons Ms n hn, List.take_set, ← frame_length, List.take_left, List.append_nil]
  have hf := firstB_turned (Ms.getD n []) [] (hb n) (ok n hn).2 (place - pos Ms n) y (by omega) (by omega) hy hne
  rw [e]
  unfold oneB
  rw [hf]

/-! WHAT joined ANSWERS -/
theorem bodiesTo_length (Ls : List (List Nat)) (k : Nat) : (bodiesTo Ls k).length = (kept Ls k).length := by simp [bodiesTo]
theorem bodiesTo_getD (Ls : List (List Nat)) (k i : Nat) (h : i < (kept Ls k).length) : (bodiesTo Ls k).getD i [] = Ls.getD ((kept Ls k).getD i 0) [] := by
  simp [bodiesTo, List.getD_eq_getElem?_getD, h]
theorem kept_lt (Ls : List (List Nat)) (k i : Nat) (h : i < (kept Ls k).length) : (kept Ls k).getD i 0 < k := by
  induction k generalizing i with
  | zero => simp [kept] at h
  | succ k ih =>
    rw [kept] at h ⊢
    split at h <;> rename_i hc
    · rw [if_pos hc]
      rw [List.length_append] at h
      by_cases e : i < (kept Ls k).length
      · have := ih i e
        simp only [List.getD_eq_getElem?_getD, List.getElem?_append_left e] at this ⊢
        omega
      · have : i = (kept Ls k).length := by simp at h; omega
        subst this
        simp [List.getD_eq_getElem?_getD]
    · rw [if_neg hc]; have := ih i h; omega
theorem kept_ok (Ls : List (List Nat)) (k i : Nat) (h : i < (kept Ls k).length) : okB (Ls.getD ((kept Ls k).getD i 0) []) = true := by
  induction k generalizing i with
  | zero => simp [kept] at h
  | succ k ih =>
    rw [kept] at h ⊢
    split at h <;> rename_i hc
    · rw [if_pos hc]
      rw [List.length_append] at h
      by_cases e : i < (kept Ls k).length
      · have := ih i e
        simp only [List.getD_eq_getElem?_getD, List.getElem?_append_left e] at this ⊢
        exact this
      · have : i = (kept Ls k).length := by simp at h; omega
        subst this
        simpa [List.getD_eq_getElem?_getD] using hc
    · rw [if_neg hc]; exact ih i h
theorem bodies_ok (Ls : List (List Nat)) (k : Nat) : okL (bodiesTo Ls k) := fun i hi => by
  rw [bodiesTo_length] at hi
  rw [bodiesTo_getD Ls k i hi]
  have := kept_ok Ls k i hi
  simpa [okB] using this
theorem bodies_bytes (Ls : List (List Nat)) (hb : ∀ i, Bytes (Ls.getD i [])) (k i : Nat) : Bytes ((bodiesTo Ls k).getD i []) := by
  by_cases h : i < (kept Ls k).length
  · rw [bodiesTo_getD Ls k i h]; exact hb _
  · have : (bodiesTo Ls k).getD i [] = [] := by
      simp [List.getD_eq_getElem?_getD, List.getElem?_eq_none (show (bodiesTo Ls k).length ≤ i by rw [bodiesTo_length]; omega)]
    rw [this]; exact bytes_nil
theorem starts_at (Ls : List (List Nat)) (k i : Nat) (h : i < (kept Ls k).length) : (startsTo Ls k).getD i 0 = pos (bodiesTo Ls k) i := by
  induction k generalizing i with
  | zero => simp [kept] at h
  | succ k ih =>
    have hb : okB (Ls.getD k []) = true → bodiesTo Ls (k + 1) = bodiesTo Ls k ++ [Ls.getD k []] := fun hc => by unfold bodiesTo; rw [kept, if_pos hc]; simp
    have hl := starts_length Ls k
    rw [kept] at h
    split at h <;> rename_i hc
    · rw [startsTo, if_pos hc, hb hc]
      rw [List.length_append] at h
      have hp : ∀ j, j ≤ (kept Ls k).length → pos (bodiesTo Ls k ++ [Ls.getD k []]) j = pos (bodiesTo Ls k) j := fun j hj => by
        unfold pos
        rw [List.take_append_of_le_length (by rw [bodiesTo_length]; exact hj)]
      by_cases e : i < (kept Ls k).length
      · have := ih i e
        rw [hp i (by omega), ← this]
        simp only [List.getD_eq_getElem?_getD]
        rw [List.getElem?_append_left (by omega)]
      · have : i = (kept Ls k).length := by simp at h; omega
        subst this
        rw [hp _ (Nat.le_refl _), ← bodiesTo_length, pos_all]
        simp [List.getD_eq_getElem?_getD, bodiesTo_length, ← hl, joinTo]
    · have hb2 : bodiesTo Ls (k + 1) = bodiesTo Ls k := by unfold bodiesTo; rw [kept, if_neg hc]
      rw [startsTo, if_neg hc, hb2]
      exact ih i h
theorem joinL_bytes (Ms : List (List Nat)) (hb : ∀ i, Bytes (Ms.getD i [])) : Bytes (joinL Ms) := by
  induction Ms with
  | nil => exact bytes_nil
  | cons M Ms ih =>
    rw [joinL_cons]
    exact bytes_app (bytes_frame (hb 0)) (ih (fun i => hb (i + 1)))
end Go.Proofs.Ytbcijdgpaglbnaa.Q
