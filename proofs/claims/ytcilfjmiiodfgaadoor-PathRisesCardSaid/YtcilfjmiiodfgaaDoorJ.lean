import Derived.Test.YtcilfjmiiodfgaaDoorI
namespace Go.Proofs.YtcilfjmiiodfgaaDoor.Q
open Go.RowKit Go.Shelf Go.Proofs.YtcilfjmiiodfgaaDoorW.PrintWords Go.Proofs.YtcilfjmiiodfgaaDoor.Pr
set_option linter.unusedVariables false
set_option linter.unusedSimpArgs false

/-! A NAME HAS NO SLASH -/
theorem ok_slash {s : ByteArray} {i : Nat} (hi : i < s.size) (h : (s.get! i).toNat = 47) : okAt s i = false := by
  unfold okAt
  rw [Lib.decode_at, h]
  rfl
theorem wide_high {s : ByteArray} {i j : Nat} (hi : i < s.size) (h1 : i < j) (h2 : j < i + wd s i) : 128 ≤ (s.get! j).toNat := by
  unfold wd at h2
  rw [Lib.decode_at] at h2
  unfold Lib.decodeN at h2
  have : j = i + 1 ∨ j = i + 2 ∨ j = i + 3 ∨ i + 4 ≤ j := by omega
  split at h2
  · simp only at h2; omega
  split at h2
  · rename_i c1 c2
    split at h2
    · simp only at h2
      obtain rfl : j = i + 1 := by omega
      omega
    · simp only at h2; omega
  split at h2
  · rename_i c1 c2 c3
    split at h2
    · simp only at h2
      rcases this with rfl | rfl | rfl | h <;> omega
    · simp only at h2; omega
  split at h2
  · rename_i c1 c2 c3 c4
    split at h2
    · simp only at h2
      rcases this with rfl | rfl | rfl | h <;> omega
    · simp only at h2; omega
  · simp only at h2; omega
theorem no_slash (s : ByteArray) : ∀ n i, s.size - i ≤ n → bad s i = none → ∀ j, i ≤ j → j < s.size → (s.get! j).toNat ≠ 47 := by
  intro n
  induction n with
  | zero => intro i hi _ j h1 h2; omega
  | succ n ih =>
    intro i hi hb j h1 h2
    have h3 : i < s.size := by omega
    cases h4 : okAt s i with
    | false => rw [bad_yes h3 h4] at hb; cases hb
    | true =>
      rw [bad_no h3 h4] at hb
      have hw := wd_pos (s := s) (i := i)
      by_cases e : j = i
      · subst e
        intro h5
        rw [ok_slash h3 h5] at h4; cases h4
      · by_cases e2 : j < i + wd s i
        · have := wide_high h3 (by omega) e2
          omega
        · exact ih (i + wd s i) (by omega) hb j (by omega) h2
theorem name_no_slash {s : ByteArray} (h : nameOk s = true) (j : Nat) (hj : j < s.size) : (s.get! j).toNat ≠ 47 :=
  no_slash s _ 0 (Nat.le_refl _) ((nameOk_iff s).1 h).2.1 j (Nat.zero_le _) hj
theorem name_pos {s : ByteArray} (h : nameOk s = true) : 0 < s.size := by
  have h1 := ((nameOk_iff s).1 h).1
  rcases Nat.eq_zero_or_pos s.size with h2 | h2
  · exact absurd (.inl ((toList_nil_iff s).2 h2)) h1
  · exact h2

/-! THE NAMES OF WHAT IS PUT TOGETHER -/
theorem get_app_left (a b : ByteArray) (i : Nat) (h : i < a.size) : (a ++ b).get! i = a.get! i := by
  rw [Utf8W.get!_of_lt _ i (by rw [ByteArray.size_append]; omega), Utf8W.get!_of_lt _ i h]
  exact ByteArray.getElem_append_left h
theorem get_app_right (a b : ByteArray) (i : Nat) (h : i < b.size) : (a ++ b).get! (a.size + i) = b.get! i := by
  rw [Utf8W.get!_of_lt _ _ (by rw [ByteArray.size_append]; omega), Utf8W.get!_of_lt _ i h]
  rw [ByteArray.getElem_append_right (by omega)]
  congr 1; omega
theorem ext_get {a b : ByteArray} (hs : a.size = b.size) (h : ∀ i, i < a.size → a.get! i = b.get! i) : a = b := by
  apply ByteArray.ext_getElem hs
  intro i h1 h2
  have := h i h1
  rwa [Utf8W.get!_of_lt _ i h1, Utf8W.get!_of_lt _ i h2] at this
theorem extract_get2 (s : ByteArray) (i e k : Nat) (hk : i + k < e) (he : e ≤ s.size) : (s.extract i e).get! k = s.get! (i + k) := by
  rw [Utf8W.get!_of_lt _ _ (by rw [ByteArray.size_extract]; omega), Utf8W.get!_of_lt _ _ (by omega)]
  exact ByteArray.getElem_extract _
theorem extract_app_left (a b : ByteArray) (i e : Nat) (he : e ≤ a.size) : (a ++ b).extract i e = a.extract i e := by
  have hz : (a ++ b).size = a.size + b.size := ByteArray.size_append
  apply ext_get
  · rw [ByteArray.size_extract, ByteArray.size_extract, hz]; omega
  · intro k hk
    rw [ByteArray.size_extract, hz] at hk
    rw [extract_get2 _ _ _ _ (by omega) (by omega), extract_get2 _ _ _ _ (by omega) he, get_app_left _ _ _ (by omega)]
def slashed (a b : ByteArray) : ByteArray := (a ++ rootB) ++ b
theorem slashed_size (a b : ByteArray) : (slashed a b).size = a.size + 1 + b.size := by
  unfold slashed
  rw [ByteArray.size_append, ByteArray.size_append]; rfl
theorem slashed_left (a b : ByteArray) (i : Nat) (h : i < a.size) : (slashed a b).get! i = a.get! i := by
  unfold slashed
  rw [get_app_left _ _ _ (by rw [ByteArray.size_append]; omega), get_app_left _ _ _ h]
theorem slashed_mid (a b : ByteArray) : ((slashed a b).get! a.size).toNat = 47 := by
  unfold slashed
  rw [get_app_left _ _ _ (by rw [ByteArray.size_append]; show a.size < a.size + 1; omega)]
  have := get_app_right a rootB 0 (by decide)
  rw [Nat.add_zero] at this
  rw [this]; rfl
theorem slashed_right (a b : ByteArray) (i : Nat) (h : i < b.size) : (slashed a b).get! (a.size + 1 + i) = b.get! i := by
  have hz : (a ++ rootB).size = a.size + 1 := by rw [ByteArray.size_append]; rfl
  have := get_app_right (a ++ rootB) b i h
  rw [hz] at this
  exact this
theorem slashed_extract (a b : ByteArray) (i e : Nat) (he : e ≤ a.size) : (slashed a b).extract i e = a.extract i e := by
  have hz := slashed_size a b
  apply ext_get
  · rw [ByteArray.size_extract, ByteArray.size_extract, hz]; omega
  · intro k hk
    rw [ByteArray.size_extract, hz] at hk
    rw [extract_get2 _ _ _ _ (by omega) (by omega), extract_get2 _ _ _ _ (by omega) he, slashed_left _ _ _ (by omega)]
theorem slashed_last (a b : ByteArray) : (slashed a b).extract (a.size + 1) (slashed a b).size = b := by
  have hz := slashed_size a b
  apply ext_get
  · rw [ByteArray.size_extract]; omega
  · intro k hk
    rw [ByteArray.size_extract] at hk
    rw [extract_get2 _ _ _ _ (by omega) (by omega), slashed_right _ _ _ (by omega)]
theorem segs_app (a b : ByteArray) (hb : ∀ j, j < b.size → (b.get! j).toNat ≠ 47) : ∀ n i, a.size - i ≤ n → i ≤ a.size → segs (slashed a b) i = segs a i ++ [b] := by
  have hz := slashed_size a b
  have hend : segs (slashed a b) (a.size + 1) = [b] := by
    have he : endAt (slashed a b) (a.size + 1) = (slashed a b).size := by
      refine endAt_is (by omega) (Nat.le_refl _) (fun j h1 h2 => ?_) (fun h => by omega)
      have := slashed_right a b (j - (a.size + 1)) (by omega)
      rw [show a.size + 1 + (j - (a.size + 1)) = j by omega] at this
      rw [this]; exact hb _ (by omega)
    rw [segs_in (by omega), he, segs_out (by omega), slashed_last]
  intro n
  induction n with
  | zero =>
    intro i hi h
    obtain rfl : i = a.size := by omega
    have he : endAt (slashed a b) a.size = a.size := endAt_yes (by omega) (slashed_mid a b)
    have he2 : endAt a a.size = a.size := endAt_out (by omega)
    rw [segs_in (by omega), he, slashed_extract _ _ _ _ (Nat.le_refl _), hend, segs_in (Nat.le_refl _), he2, segs_out (by omega)]
    rfl
  | succ n ih =>
    intro i hi h
    obtain ⟨x, y, c, d⟩ := endAt_spec a i h
    have he : endAt (slashed a b) i = endAt a i := by
      refine endAt_is x (by omega) (fun j h1 h2 => ?_) (fun h1 => ?_)
      · rw [slashed_left _ _ _ (by omega)]; exact c j h1 h2
      · by_cases e : endAt a i < a.size
        · rw [slashed_left _ _ _ e]; exact d e
        · rw [show endAt a i = a.size by omega]; exact slashed_mid a b
    rw [segs_in (by omega), he, slashed_extract _ _ _ _ y, segs_in h]
    by_cases e : endAt a i < a.size
    · rw [ih (endAt a i + 1) (by omega) (by omega)]; rfl
    · rw [show endAt a i = a.size by omega, hend, segs_out (by omega)]; rfl
/-- what stands behind a slash is one of the names -/
theorem seg_after (p : ByteArray) : ∀ n i j, p.size - i ≤ n → i ≤ j → j < p.size → (p.get! j).toNat = 47 → p.extract (j + 1) (endAt p (j + 1)) ∈ segs p i := by
  intro n
  induction n with
  | zero => intro i j hi h1 h2 _; omega
  | succ n ih =>
    intro i j hi h1 h2 h3
    have hle : i ≤ p.size := by omega
    obtain ⟨x, y, c, d⟩ := endAt_spec p i hle
    rw [segs_in hle]
    by_cases e : endAt p i = j
    · subst e
      refine List.mem_cons_of_mem _ ?_
      rw [segs_in (by omega)]
      exact List.mem_cons_self
    · have : endAt p i < j := by
        by_cases h4 : j < endAt p i
        · exact absurd h3 (c j h1 h4)
        · omega
      exact List.mem_cons_of_mem _ (ih (endAt p i + 1) j (by omega) (by omega) h2 h3)
theorem isP_names {p : ByteArray} (h : isP p = true) (hr : ¬ p.toList = [47]) : ∀ x ∈ segs p 1, nameOk x = true := by
  unfold isP at h
  simp only [Bool.and_eq_true] at h
  have := h.2
  unfold names at this
  rw [if_neg hr] at this
  exact fun x hx => List.all_eq_true.1 this x hx
theorem isP_two {p : ByteArray} (h : isP p = true) (hr : ¬ p.toList = [47]) : 2 ≤ p.size := by
  have hsl := isP_slash h
  by_cases e : p.size = 1
  · exfalso
    have h1 := hsl.2
    refine hr ?_
    rw [Lib.toList_data]
    have hl : p.data.toList.length = 1 := by rw [← Lib.size_eq]; exact e
    have h2 := data_getD p 0 hsl.1
    match hd : p.data.toList, hl with
    | [x], _ =>
      rw [hd] at h2
      have h3 := Option.some.inj h2
      rw [← h3] at h1
      have : x = 47 := UInt8.toNat_inj.1 h1
      rw [this]
  · have := hsl.1; omega
/-- behind each slash of a path, but the root's, there is something, and no slash -/
theorem isP_after {p : ByteArray} (h : isP p = true) (hr : ¬ p.toList = [47]) {j : Nat} (hj : j < p.size) (h1 : (p.get! j).toNat = 47) : j + 1 < p.size ∧ (p.get! (j + 1)).toNat ≠ 47 := by
  have hx : nameOk (p.extract (j + 1) (endAt p (j + 1))) = true := by
    by_cases e : j = 0
    · subst e
      have := isP_names h hr
      have h2 := isP_two h hr
      exact this _ (by rw [segs_in (by omega)]; exact List.mem_cons_self)
    · exact isP_names h hr _ (seg_after p _ 1 j (Nat.le_refl _) (by omega) hj h1)
  have hp := name_pos hx
  obtain ⟨a, b, c, d⟩ := endAt_spec p (j + 1) (by omega)
  rw [ByteArray.size_extract] at hp
  exact ⟨by omega, c (j + 1) (Nat.le_refl _) (by omega)⟩
theorem isP_no_end {p : ByteArray} (h : isP p = true) (hr : ¬ p.toList = [47]) : (p.get! (p.size - 1)).toNat ≠ 47 := by
  intro h1
  have := isP_two h hr
  have := (isP_after h hr (j := p.size - 1) (by omega) h1).1
  omega

/-! JOIN -/
/-- a path's text ahead of a slash and a name -/
def stem (d : ByteArray) : ByteArray := if d.toList = [47] then empty else d
theorem root_is {d : ByteArray} (h : d.toList = [47]) : d = rootB := by
  rw [Lib.toList_data] at h
  cases d with
  | mk a =>
    have : a = #[47] := by
      apply Array.toList_inj.1
      simpa using h
    rw [this]; rfl
theorem stem_segs {d b : ByteArray} (hd : isP d = true) (hb : nameOk b = true) : segs (slashed (stem d) b) 1 = (names d) ++ [b] := by
  unfold stem names
  by_cases h : d.toList = [47]
  · rw [if_pos h, if_pos h]
    have he : slashed empty b = slashed empty b := rfl
    have hz := slashed_size empty b
    have h0 : empty.size = 0 := rfl
    have hend : endAt (slashed empty b) 1 = (slashed empty b).size := by
      refine endAt_is (by omega) (Nat.le_refl _) (fun j h1 h2 => ?_) (fun h => by omega)
      have := slashed_right empty b (j - 1) (by omega)
      rw [h0, show 0 + 1 + (j - 1) = j by omega] at this
      rw [this]; exact name_no_slash hb _ (by omega)
    have hl := slashed_last empty b
    rw [h0] at hl
    rw [segs_in (by omega), hend, segs_out (by omega)]
    exact congrArg (fun x => [x]) hl
  · rw [if_neg h, if_neg h]
    have := isP_slash hd
    exact segs_app d b (fun j hj => name_no_slash hb j hj) _ 1 (Nat.le_refl _) this.1
theorem stem_slash {d b : ByteArray} (hd : isP d = true) : slash (slashed (stem d) b) := by
  have hz := slashed_size (stem d) b
  refine ⟨by omega, ?_⟩
  unfold stem
  by_cases h : d.toList = [47]
  · rw [if_pos h]; exact slashed_mid empty b
  · rw [if_neg h]
    have := isP_slash hd
    rw [slashed_left _ _ _ this.1]; exact this.2
theorem stem_not_root {d b : ByteArray} (hb : nameOk b = true) : ¬ (slashed (stem d) b).toList = [47] := by
  intro h
  have h1 := root_is h
  have h2 := slashed_size (stem d) b
  rw [h1] at h2
  have := name_pos hb
  have : rootB.size = 1 := rfl
  omega
theorem isP_join {d b : ByteArray} (hd : isP d = true) (hb : nameOk b = true) : isP (slashed (stem d) b) = decide ((slashed (stem d) b).size ≤ 64) := by
  have h1 := stem_slash (b := b) hd
  have h2 : (names (slashed (stem d) b)).all nameOk = true := by
    unfold names
    rw [if_neg (stem_not_root hb), stem_segs hd hb, List.all_append]
    unfold isP at hd
    simp only [Bool.and_eq_true] at hd
    rw [hd.2]; simp [hb]
  unfold isP
  simp [h1, h2]
def joinP (d b : ByteArray) : ByteArray × Nat := if isP d = true ∧ nameOk b = true ∧ (slashed (stem d) b).size ≤ 64 then (slashed (stem d) b, 0) else (empty, 50)
theorem refJoin_f (d b : ByteArray) (hs : d.size + b.size ≤ 2147483640) (k : Nat) (hk : 4 * (d.size + b.size) + 80 ≤ k) : lagoonref05_Join.f k d b = some ((joinP d b).1, ((joinP d b).2 : Int)) := by
  obtain ⟨k, rfl⟩ : ∃ j, k = j + 1 := ⟨k - 1, by omega⟩
  have hz : (d ++ (⟨#[47]⟩ : ByteArray)).size = d.size + 1 := by rw [ByteArray.size_append]; rfl
  have hJ : ∀ q : ByteArray, q.size ≤ d.size + b.size + 1 → (isP d = true → q = slashed (stem d) b) → lagoonref05_Join.j0 (k + 1) d b q = some ((joinP d b).1, ((joinP d b).2 : Int)) := fun q hq hq2 => by
    rw [lagoonref05_Join.j0, is_f d (by omega) k (by omega), Option.bind_some]
    unfold joinP
    cases h1 : isP d with
    | false => rw [if_neg (by simp), if_neg (by simp)]; rfl
    | true =>
      rw [if_pos rfl, name_f b (by omega) k (by omega), Option.bind_some]
      cases h2 : nameOk b with
      | false => rw [if_neg (by simp), if_neg (by simp)]; rfl
      | true =>
        rw [if_pos rfl, is_f q (by omega) k (by omega), Option.bind_some, hq2 h1, isP_join h1 h2]
        by_cases h3 : (slashed (stem d) b).size ≤ 64
        · rw [if_pos (by simpa using h3), if_pos ⟨rfl, rfl, h3⟩]; rfl
        · rw [if_neg (by simpa using h3), if_neg (fun x => h3 x.2.2)]; rfl
  unfold lagoonref05_Join.f
  rw [if_pos (by omega), hz, if_pos (by omega)]
  by_cases h : d.toList = [47]
  · rw [if_pos h, if_pos (by omega)]
    refine hJ _ (by rw [ByteArray.size_append]; show 1 + b.size ≤ _; omega) (fun _ => ?_)
    unfold stem slashed
    rw [if_pos h]
    show _ = (empty ++ rootB) ++ b
    have : empty ++ rootB = rootB := ByteArray.empty_append
    rw [this]; rfl
  · rw [if_neg h]
    refine hJ _ (by rw [ByteArray.size_append, hz]; omega) (fun _ => ?_)
    unfold stem slashed
    rw [if_neg h]; rfl
theorem refJoin_calls (d b : ByteArray) (w : World) (hs : d.size + b.size ≤ 2147483640) : Calls Tryd.prog 19 #[.string d, .string b] w fun e w' => e = .returned (.tuple #[.string (joinP d b).1, .int .i64 ((joinP d b).2 : Nat)]) ∧ Below w.heap.size w w' :=
  lagoonref05_Join.calls (4 * (d.size + b.size) + 80) d b _ _ w (refJoin_f d b hs _ (Nat.le_refl _))
theorem trim_is {d : ByteArray} (hd : isP d = true) : (⟨(Lib.trimSuffix d.data.toList (⟨#[47]⟩ : ByteArray).data.toList).toArray⟩ : ByteArray) = stem d := by
  have e47 : (⟨#[47]⟩ : ByteArray).data.toList = [47] := rfl
  rw [e47]
  unfold Lib.trimSuffix stem
  by_cases h : d.toList = [47]
  · rw [if_pos h]
    rw [Lib.toList_data] at h
    rw [h]; rfl
  · rw [if_neg h]
    have hno : ¬ Lib.hasSuffix d.data.toList [47] = true := by
      intro hs
      unfold Lib.hasSuffix at hs
      obtain ⟨l, hl⟩ := List.isSuffixOf_iff_suffix.1 hs
      have h1 := isP_no_end hd h
      have h2 := isP_slash hd
      have hlen : d.size = l.length + 1 := by rw [Lib.size_eq, ← hl]; simp
      have h3 := data_getD d (d.size - 1) (by have := h2.1; omega)
      rw [← hl, hlen] at h3
      simp at h3
      rw [hlen, Nat.add_sub_cancel, ← h3] at h1
      exact h1 rfl
    rw [if_neg hno]
end Go.Proofs.YtcilfjmiiodfgaaDoor.Q
