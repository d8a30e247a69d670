import Derived.Test.YtcilfjmiiodfgaaDoorO
namespace Go.Proofs.YtcilfjmiiodfgaaDoor.Q
open Go.RowKit Go.Shelf Go.Proofs.YtcilfjmiiodfgaaDoorW.PrintWords Go.Proofs.YtcilfjmiiodfgaaDoor.Pr
set_option linter.unusedVariables false
set_option linter.unusedSimpArgs false

/-! A PATH AND ITS PARENT -/
theorem root_path : isP rootB = true := by
  have h := is_f rootB (by decide) 50 (by decide)
  have h2 : lagoonref05_Is.f 50 rootB = some true := by kernel_rfl
  rw [h2] at h
  exact (Option.some.inj h).symm
theorem root_list : rootB.toList = [47] := by rw [Lib.toList_data]; rfl
theorem extract_all (s : ByteArray) : s.extract 0 s.size = s := by
  apply ext_get
  · rw [ByteArray.size_extract]; omega
  · intro k hk
    rw [ByteArray.size_extract] at hk
    rw [extract_get2 _ _ _ _ (by omega) (Nat.le_refl _), Nat.zero_add]
theorem extract_none (s : ByteArray) : s.extract 0 0 = empty := by
  apply ext_get
  · rw [ByteArray.size_extract]; show min 0 s.size - 0 = 0; omega
  · intro k hk
    rw [ByteArray.size_extract] at hk
    omega
/-- a path cut at its last slash -/
structure Cut (p : ByteArray) (L : Nat) : Prop where
  lt : L + 1 < p.size
  mid : (p.get! L).toNat = 47
  no : ∀ j, L < j → j < p.size → (p.get! j).toNat ≠ 47
  is : p = slashed (p.extract 0 L) (p.extract (L + 1) p.size)
  base : nameOk (p.extract (L + 1) p.size) = true
theorem cut_of {p : ByteArray} (h : isP p = true) (hr : ¬ p.toList = [47]) : Cut p (lastTo p p.size) := by
  have hsl := isP_slash h
  obtain ⟨a, b, c⟩ := lastTo_spec p p.size hsl hsl.1
  have haft := (isP_after h hr a b).1
  have hend : endAt p (lastTo p p.size + 1) = p.size := endAt_is (by omega) (Nat.le_refl _) (fun j h1 h2 => c j (by omega) h2) (fun h => by omega)
  refine ⟨haft, b, c, ?_, ?_⟩
  · have hz := slashed_size (p.extract 0 (lastTo p p.size)) (p.extract (lastTo p p.size + 1) p.size)
    have z1 : (p.extract 0 (lastTo p p.size)).size = lastTo p p.size := by rw [ByteArray.size_extract]; omega
    have z2 : (p.extract (lastTo p p.size + 1) p.size).size = p.size - (lastTo p p.size + 1) := by rw [ByteArray.size_extract]; omega
    apply ext_get
    · omega
    · intro k hk
      by_cases e1 : k < lastTo p p.size
      · rw [slashed_left _ _ _ (by omega), extract_get2 _ _ _ _ (by omega) (by omega), Nat.zero_add]
      · by_cases e2 : k = lastTo p p.size
        · have hm := slashed_mid (p.extract 0 (lastTo p p.size)) (p.extract (lastTo p p.size + 1) p.size)
          rw [z1] at hm
          rw [e2]
          exact UInt8.toNat_inj.1 (b.trans hm.symm)
        · have hm := slashed_right (p.extract 0 (lastTo p p.size)) (p.extract (lastTo p p.size + 1) p.size) (k - (lastTo p p.size + 1)) (by omega)
          rw [z1, show lastTo p p.size + 1 + (k - (lastTo p p.size + 1)) = k by omega] at hm
          rw [hm, extract_get2 _ _ _ _ (by omega) (Nat.le_refl _)]
          congr 1; omega
  · by_cases e : lastTo p p.size = 0
    · have := isP_names h hr (p.extract 1 (endAt p 1)) (by rw [segs_in (by omega)]; exact List.mem_cons_self)
      rw [e] at hend ⊢
      rw [hend] at this
      exact this
    · have := isP_names h hr _ (seg_after p _ 1 (lastTo p p.size) (Nat.le_refl _) (by omega) a b)
      rw [hend] at this
      exact this
theorem parent_stem {p : ByteArray} (h : isP p = true) (hr : ¬ p.toList = [47]) : stem (parentP p) = p.extract 0 (lastTo p p.size) ∧ isP (parentP p) = true := by
  have hc := cut_of h hr
  have hsl := isP_slash h
  have hP : parentP p = if lastTo p p.size = 0 then rootB else p.extract 0 (lastTo p p.size) := by unfold parentP; rw [if_pos ⟨h, hr⟩]
  obtain ⟨L, hL⟩ : ∃ L, lastTo p p.size = L := ⟨_, rfl⟩
  rw [hL] at hc hP ⊢
  by_cases e : L = 0
  · subst e
    rw [if_pos rfl] at hP
    rw [hP]
    refine ⟨?_, root_path⟩
    unfold stem
    rw [if_pos root_list, extract_none]
  · rw [if_neg e] at hP
    have hL2 : 2 ≤ L := by
      by_cases e1 : L = 1
      · subst e1
        have := (isP_after h hr (j := 0) hsl.1 hsl.2).2
        exact absurd hc.mid this
      · omega
    have z1 : (p.extract 0 L).size = L := by rw [ByteArray.size_extract]; have := hc.lt; omega
    have hnr : ¬ (p.extract 0 L).toList = [47] := fun x => by
      have := root_is x
      rw [this] at z1
      have : rootB.size = 1 := rfl
      omega
    rw [hP]
    refine ⟨by unfold stem; rw [if_neg hnr], ?_⟩
    have hseg := segs_app (p.extract 0 L) (p.extract (L + 1) p.size) (fun j hj => name_no_slash hc.base j hj) _ 1 (Nat.le_refl _) (by omega)
    rw [← hc.is] at hseg
    have hall := isP_names h hr
    unfold isP names
    rw [if_neg hnr]
    have hs64 := isP_size h
    have h1 : slash (p.extract 0 L) := ⟨by omega, by rw [extract_get2 _ _ _ _ (by omega) (by have := hc.lt; omega), Nat.zero_add]; exact hsl.2⟩
    have h2 : (segs (p.extract 0 L) 1).all nameOk = true := List.all_eq_true.2 (fun x hx => hall x (by rw [hseg]; exact List.mem_append_left _ hx))
    have h3 : (p.extract 0 L).size ≤ 64 := by have := hc.lt; omega
    have h3' : min L p.size ≤ 64 := by omega
    simp [h1, h2, h3']
theorem back_join {p : ByteArray} (h : isP p = true) (hr : ¬ p.toList = [47]) : joinP (parentP p) (baseP p) = (p, 0) := by
  obtain ⟨h1, h2⟩ := parent_stem h hr
  have hc := cut_of h hr
  have hb : baseP p = p.extract (lastTo p p.size + 1) p.size := by unfold baseP; rw [if_pos h]
  unfold joinP
  rw [h1, hb, ← hc.is, if_pos ⟨h2, hc.base, isP_size h⟩]
theorem parent_above {p : ByteArray} (h : isP p = true) (hr : ¬ p.toList = [47]) : parentP p ∈ aboveP p := by
  have h2 := (parent_stem h hr).2
  have hc := cut_of h hr
  have hP : parentP p = if lastTo p p.size = 0 then rootB else p.extract 0 (lastTo p p.size) := by unfold parentP; rw [if_pos ⟨h, hr⟩]
  rw [mem_above h hr h2, hP]
  by_cases e : lastTo p p.size = 0
  · rw [if_pos e]; exact .inl root_list
  · rw [if_neg e]
    have z1 : (p.extract 0 (lastTo p p.size)).size = lastTo p p.size := by rw [ByteArray.size_extract]; have := hc.lt; omega
    rw [z1]
    exact .inr ⟨by have := hc.lt; omega, rfl, hc.mid⟩
theorem back_below {p : ByteArray} (h : isP p = true) (hr : ¬ p.toList = [47]) : belowP p (parentP p) = true := by
  unfold belowP
  rw [h, (parent_stem h hr).2]
  simp [parent_above h hr]
/-- what is put together comes apart -/
theorem put_last {p b : ByteArray} (hp : isP p = true) (hb : nameOk b = true) : lastTo (slashed (stem p) b) (slashed (stem p) b).size = (stem p).size := by
  have hz := slashed_size (stem p) b
  refine last_is _ (stem_slash hp) (by omega) (slashed_mid _ _) (fun j h1 h2 => ?_)
  have := slashed_right (stem p) b (j - ((stem p).size + 1)) (by omega)
  rw [show (stem p).size + 1 + (j - ((stem p).size + 1)) = j by omega] at this
  rw [this]; exact name_no_slash hb _ (by omega)
theorem stem_zero {p : ByteArray} (hp : isP p = true) : (stem p).size = 0 ↔ p.toList = [47] := by
  unfold stem
  by_cases h : p.toList = [47]
  · rw [if_pos h]; exact ⟨fun _ => h, fun _ => rfl⟩
  · rw [if_neg h]
    have := (isP_slash hp).1
    exact ⟨fun x => by omega, fun x => absurd x h⟩
structure Put (p b q : ByteArray) : Prop where
  is : isP q = true
  parent : parentP q = p
  base : baseP q = b
  below : belowP q p = true
theorem put_of {p b : ByteArray} (hp : isP p = true) (hb : nameOk b = true) (hz : (slashed (stem p) b).size ≤ 64) : Put p b (slashed (stem p) b) := by
  have hq : isP (slashed (stem p) b) = true := by rw [isP_join hp hb]; simpa using hz
  have hr := stem_not_root (d := p) hb
  have hl := put_last hp hb
  have hpar : parentP (slashed (stem p) b) = p := by
    unfold parentP
    rw [if_pos ⟨hq, hr⟩, hl]
    by_cases h : p.toList = [47]
    · rw [if_pos ((stem_zero hp).2 h)]; exact (root_is h).symm
    · rw [if_neg (fun x => h ((stem_zero hp).1 x))]
      have : stem p = p := by unfold stem; rw [if_neg h]
      rw [this, slashed_extract _ _ _ _ (Nat.le_refl _), extract_all]
  refine ⟨hq, hpar, ?_, ?_⟩
  · unfold baseP
    rw [if_pos hq, hl, slashed_last]
  · have h1 := back_below hq hr
    rw [hpar] at h1
    exact h1
theorem join_cases (p b : ByteArray) (hp : isP p = true) : (joinP p b = (empty, 50)) ∨ ∃ q, joinP p b = (q, 0) ∧ Put p b q := by
  unfold joinP
  by_cases h : isP p = true ∧ nameOk b = true ∧ (slashed (stem p) b).size ≤ 64
  · rw [if_pos h]; exact .inr ⟨_, rfl, put_of h.1 h.2.1 h.2.2⟩
  · rw [if_neg h]; exact .inl rfl
theorem no_parent {p : ByteArray} (h : isP p = false) : parentP p = empty ∧ baseP p = empty := by
  constructor
  · unfold parentP; rw [if_neg (by simp [h])]
  · unfold baseP; rw [if_neg (by simp [h])]

/-! WHAT LIES ABOVE -/
theorem ups_app (p : ByteArray) : ∀ n i j, j - i ≤ n → i ≤ j → j ≤ p.size → ups p i = (ups (p.extract 0 j) i) ++ ups p j := by
  intro n
  induction n with
  | zero =>
    intro i j hi h1 h2
    obtain rfl : i = j := by omega
    have z1 : (p.extract 0 i).size = i := by rw [ByteArray.size_extract]; omega
    rw [ups_out (p := p.extract 0 i) (i := i) (by omega)]; rfl
  | succ n ih =>
    intro i j hi h1 h2
    have z1 : (p.extract 0 j).size = j := by rw [ByteArray.size_extract]; omega
    by_cases e : i = j
    · subst e
      rw [ups_out (p := p.extract 0 i) (by omega)]; rfl
    · have hlt : i < p.size := by omega
      have hg : (p.extract 0 j).get! i = p.get! i := by rw [extract_get2 _ _ _ _ (by omega) (by omega), Nat.zero_add]
      have hx : (p.extract 0 j).extract 0 i = p.extract 0 i := by
        apply ext_get
        · rw [ByteArray.size_extract, z1, ByteArray.size_extract]; omega
        · intro k hk
          rw [ByteArray.size_extract, z1] at hk
          rw [extract_get2 _ _ _ _ (by omega) (by omega), extract_get2 _ _ _ _ (by omega) (by omega), extract_get2 _ _ _ _ (by omega) (by omega), Nat.zero_add, Nat.zero_add]
      have := ih (i + 1) j (by omega) (by omega) h2
      by_cases h47 : (p.get! i).toNat = 47
      · rw [ups_yes hlt h47, ups_yes (p := p.extract 0 j) (by omega) (by rw [hg]; exact h47), hx, this]; rfl
      · rw [ups_no hlt h47, ups_no (p := p.extract 0 j) (by omega) (by rw [hg]; exact h47), this]
theorem above_parent {p : ByteArray} (h : isP p = true) (hr : ¬ p.toList = [47]) : aboveP p = aboveP (parentP p) ++ [parentP p] := by
  have hc := cut_of h hr
  have h2 := (parent_stem h hr).2
  have hP : parentP p = if lastTo p p.size = 0 then rootB else p.extract 0 (lastTo p p.size) := by unfold parentP; rw [if_pos ⟨h, hr⟩]
  have hsl := isP_slash h
  have hA : aboveP p = rootB :: ups p 1 := by unfold aboveP; rw [if_pos ⟨h, hr⟩]
  obtain ⟨L, hL⟩ : ∃ L, lastTo p p.size = L := ⟨_, rfl⟩
  rw [hL] at hc hP
  have hend : ups p (L + 1) = [] := by
    suffices ∀ n i, p.size - i ≤ n → L < i → ups p i = [] from this _ (L + 1) (Nat.le_refl _) (by omega)
    intro n
    induction n with
    | zero => intro i hi _; exact ups_out (by omega)
    | succ n ih =>
      intro i hi h1
      by_cases h3 : i < p.size
      · rw [ups_no h3 (hc.no i h1 h3)]; exact ih (i + 1) (by omega) (by omega)
      · exact ups_out h3
  by_cases e : L = 0
  · subst e
    rw [if_pos rfl] at hP
    rw [hP, hA]
    have : aboveP rootB = [] := by unfold aboveP; rw [if_neg (fun x => x.2 root_list)]
    rw [this, hend]; rfl
  · rw [if_neg e] at hP
    have z1 : (p.extract 0 L).size = L := by rw [ByteArray.size_extract]; have := hc.lt; omega
    have hL2 : 2 ≤ L := by
      by_cases e1 : L = 1
      · subst e1
        have := (isP_after h hr (j := 0) hsl.1 hsl.2).2
        exact absurd hc.mid this
      · omega
    have hnr : ¬ (p.extract 0 L).toList = [47] := fun x => by
      have := root_is x
      rw [this] at z1
      have : rootB.size = 1 := rfl
      omega
    rw [hP] at h2 ⊢
    have hA2 : aboveP (p.extract 0 L) = rootB :: ups (p.extract 0 L) 1 := by unfold aboveP; rw [if_pos ⟨h2, hnr⟩]
    rw [hA, hA2, ups_app p _ 1 L (Nat.le_refl _) (by omega) (by have := hc.lt; omega), ups_yes (by have := hc.lt; omega) hc.mid, hend]
    rfl
theorem not_self {p : ByteArray} (h : isP p = true) (hr : ¬ p.toList = [47]) : belowP p p = false := by
  unfold belowP
  have : ¬ p ∈ aboveP p := fun x => by
    rcases (mem_above h hr h).1 x with h1 | h1
    · exact hr h1
    · omega
  rw [h]; simp [this]
set_option maxHeartbeats 2000000 in
theorem below_trans {p q o : ByteArray} (h1 : belowP p q = true) (h2 : belowP q o = true) : belowP p o = true := by
  unfold belowP at h1 h2 ⊢
  simp only [Bool.and_eq_true, decide_eq_true_eq] at h1 h2
  obtain ⟨⟨hp, hq⟩, hm1⟩ := h1
  obtain ⟨⟨_, ho⟩, hm2⟩ := h2
  have hrp : ¬ p.toList = [47] := fun x => by
    have : aboveP p = [] := by unfold aboveP; rw [if_neg (fun y => y.2 x)]
    rw [this] at hm1; simp at hm1
  have hrq : ¬ q.toList = [47] := fun x => by
    have : aboveP q = [] := by unfold aboveP; rw [if_neg (fun y => y.2 x)]
    rw [this] at hm2; simp at hm2
  have a := (mem_above hp hrp hq).1 hm1
  have b := (mem_above hq hrq ho).1 hm2
  have c : o ∈ aboveP p := by
    rw [mem_above hp hrp ho]
    rcases b with b | ⟨b1, b2, b3⟩
    · exact .inl b
    · rcases a with a | ⟨a1, a2, a3⟩
      · exact absurd a hrq
      · right
        have hqe := toList_inj a2
        have hg : ∀ k, k < q.size → p.get! k = q.get! k := fun k hk => by
          have h3 : (p.extract 0 q.size).get! k = q.get! k := by rw [hqe]
          rw [extract_get2 _ _ _ _ (by omega) (by omega), Nat.zero_add] at h3
          exact h3
        have hx : p.extract 0 o.size = q.extract 0 o.size := by
          apply ext_get
          · rw [ByteArray.size_extract, ByteArray.size_extract]; omega
          · intro k hk
            rw [ByteArray.size_extract] at hk
            rw [extract_get2 _ _ _ _ (by omega) (by omega), extract_get2 _ _ _ _ (by omega) (by omega), Nat.zero_add]
            exact hg k (by omega)
        refine ⟨by omega, by rw [hx]; exact b2, by rw [hg _ b1]; exact b3⟩
  rw [hp, ho]
  exact decide_eq_true c |> fun z => by rw [z]; rfl
end Go.Proofs.YtcilfjmiiodfgaaDoor.Q
