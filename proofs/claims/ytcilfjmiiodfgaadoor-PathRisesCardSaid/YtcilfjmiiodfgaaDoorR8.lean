import Derived.Test.YtcilfjmiiodfgaaDoorR5
import Derived.Test.YtcilfjmiiodfgaaDoorQ1
namespace Go.Proofs.YtcilfjmiiodfgaaDoor.Q
open Go.RowKit Go.Shelf Go.Proofs.YtcilfjmiiodfgaaDoorW.PrintWords Go.Proofs.YtcilfjmiiodfgaaDoor.Pr
set_option linter.unusedVariables false
set_option linter.unusedSimpArgs false

/-! TEXTS THAT DIFFER IN DIGITS ALONE -/
def dig (b : UInt8) : Prop := 48 ≤ b.toNat ∧ b.toNat ≤ 57
structure Sim (s t : ByteArray) : Prop where
  size : s.size = t.size
  get : ∀ i, s.get! i = t.get! i ∨ (dig (s.get! i) ∧ dig (t.get! i))
theorem Sim.symm {s t : ByteArray} (h : Sim s t) : Sim t s := ⟨h.size.symm, fun i => (h.get i).imp Eq.symm (fun x => ⟨x.2, x.1⟩)⟩
theorem dec_sim (n b0 b1 b2 b3 c1 c2 c3 : Nat) (h1 : b1 = c1 ∨ (b1 / 64 ≠ 2 ∧ c1 / 64 ≠ 2)) (h2 : b2 = c2 ∨ (b2 / 64 ≠ 2 ∧ c2 / 64 ≠ 2)) (h3 : b3 = c3 ∨ (b3 / 64 ≠ 2 ∧ c3 / 64 ≠ 2)) : Lib.decodeN n b0 b1 b2 b3 = Lib.decodeN n b0 c1 c2 c3 := by
  rcases h1 with rfl | ⟨x1, y1⟩ <;> rcases h2 with rfl | ⟨x2, y2⟩ <;> rcases h3 with rfl | ⟨x3, y3⟩ <;> simp [Lib.decodeN, *]
theorem Sim.far {s t : ByteArray} (h : Sim s t) (i : Nat) : (s.get! i).toNat = (t.get! i).toNat ∨ ((s.get! i).toNat / 64 ≠ 2 ∧ (t.get! i).toNat / 64 ≠ 2) := by
  rcases h.get i with e | ⟨⟨a, b⟩, c, d⟩
  · exact .inl (by rw [e])
  · exact .inr ⟨by omega, by omega⟩
theorem Sim.at {s t : ByteArray} (h : Sim s t) (i : Nat) : okAt s i = okAt t i ∧ wd s i = wd t i := by
  unfold okAt wd
  rw [Lib.decode_at, Lib.decode_at, h.size]
  rcases h.get i with e | ⟨⟨a, b⟩, c, d⟩
  · rw [e, dec_sim _ _ _ _ _ _ _ _ (h.far (i + 1)) (h.far (i + 2)) (h.far (i + 3))]
    exact ⟨rfl, rfl⟩
  · have e1 : ∀ n b0 b1 b2 b3, b0 < 128 → Lib.decodeN n b0 b1 b2 b3 = (b0, 1) := fun n b0 b1 b2 b3 hb => by unfold Lib.decodeN; rw [if_pos hb]
    rw [e1 _ _ _ _ _ (by omega), e1 _ _ _ _ _ (by omega)]
    refine ⟨?_, rfl⟩
    have e2 : ∀ c : Nat, 48 ≤ c → c ≤ 57 → mayB (c : Int) ((1 : Nat) : Int) = true := fun c h1 h2 => by unfold mayB; simp; omega
    show mayB _ _ = mayB _ _
    rw [e2 _ a b, e2 _ c d]
theorem Sim.bad {s t : ByteArray} (h : Sim s t) : ∀ n i, s.size - i ≤ n → bad s i = bad t i := by
  intro n
  induction n with
  | zero => intro i hi; rw [bad_out (by omega), bad_out (by rw [← h.size]; omega)]
  | succ n ih =>
    intro i hi
    obtain ⟨h1, h2⟩ := h.at i
    by_cases hlt : i < s.size
    · cases hk : okAt s i with
      | false => rw [bad_yes hlt hk, bad_yes (s := t) (i := i) (by rw [← h.size]; exact hlt) (by rw [← h1]; exact hk)]
      | true =>
        rw [bad_no hlt hk, bad_no (s := t) (i := i) (by rw [← h.size]; exact hlt) (by rw [← h1]; exact hk), ← h2]
        have := wd_pos (s := s) (i := i)
        exact ih _ (by omega)
    · rw [bad_out hlt, bad_out (by rw [← h.size]; exact hlt)]
theorem Sim.lit {s t : ByteArray} (h : Sim s t) (l : List UInt8) (hl : ∀ b ∈ l, ¬ dig b) (hs : s.toList = l) : t.toList = l := by
  have hse : s = ⟨l.toArray⟩ := toList_inj (by rw [hs, Lib.toList_data])
  have : s = t := by
    apply ext_get h.size
    intro i hi
    rcases h.get i with e | ⟨a, _⟩
    · exact e
    · exfalso
      have hg : s.get! i ∈ l := by
        rw [Utf8W.get!_of_lt s i hi]
        have : s[i] = s.data[i]'(by simpa using hi) := rfl
        rw [← hs, Lib.toList_data]
        exact Array.mem_toList_iff.2 (Array.getElem_mem _)
      exact hl _ hg a
  rw [← this]; exact hs
theorem no_dig (b : UInt8) (l : List UInt8) (hl : l = [46] ∨ l = [46, 46] ∨ l = [47] ∨ l = []) (hb : b ∈ l) : ¬ dig b := by
  rcases hl with rfl | rfl | rfl | rfl <;> simp at hb <;> (first | (subst hb; unfold dig; decide) | (rcases hb with rfl | rfl <;> (unfold dig; decide)))
theorem Sim.special {s t : ByteArray} (h : Sim s t) (hs : special s) : special t := by
  unfold Q.special at hs ⊢
  rcases hs with e | e | e
  · exact .inl (h.lit _ (fun b hb => no_dig b _ (by simp) hb) e)
  · exact .inr (.inl (h.lit _ (fun b hb => no_dig b _ (by simp) hb) e))
  · exact .inr (.inr (h.lit _ (fun b hb => no_dig b _ (by simp) hb) e))
theorem Sim.name {s t : ByteArray} (h : Sim s t) (hs : nameOk s = true) : nameOk t = true := by
  rw [nameOk_iff] at hs ⊢
  refine ⟨fun x => hs.1 (h.symm.special x), by rw [← h.bad _ 0 (Nat.le_refl _)]; exact hs.2.1, by rw [← h.size]; exact hs.2.2⟩
theorem Sim.slash {s t : ByteArray} (h : Sim s t) (i : Nat) : (s.get! i).toNat = 47 ↔ (t.get! i).toNat = 47 := by
  rcases h.get i with e | ⟨⟨a, b⟩, c, d⟩
  · rw [e]
  · exact ⟨fun x => by omega, fun x => by omega⟩
theorem Sim.end {s t : ByteArray} (h : Sim s t) : ∀ n i, s.size - i ≤ n → endAt s i = endAt t i := by
  intro n
  induction n with
  | zero => intro i hi; rw [endAt_out (by omega), endAt_out (by rw [← h.size]; omega), h.size]
  | succ n ih =>
    intro i hi
    by_cases hlt : i < s.size
    · by_cases h47 : (s.get! i).toNat = 47
      · rw [endAt_yes hlt h47, endAt_yes (p := t) (i := i) (by rw [← h.size]; exact hlt) ((h.slash i).1 h47)]
      · rw [endAt_no hlt h47, endAt_no (p := t) (i := i) (by rw [← h.size]; exact hlt) (fun x => h47 ((h.slash i).2 x)), ih _ (by omega)]
    · rw [endAt_out hlt, endAt_out (by rw [← h.size]; exact hlt), h.size]
theorem Sim.cut {s t : ByteArray} (h : Sim s t) (i e : Nat) (he : e ≤ s.size) : Sim (s.extract i e) (t.extract i e) := by
  have hz := h.size
  refine ⟨by rw [ByteArray.size_extract, ByteArray.size_extract, h.size], fun k => ?_⟩
  by_cases hk : k < (s.extract i e).size
  · rw [ByteArray.size_extract] at hk
    rw [extract_get2 _ _ _ _ (by omega) he, extract_get2 _ _ _ _ (by omega) (by omega)]
    exact h.get (i + k)
  · left
    rw [get_out _ _ hk, get_out _ _ (by rw [ByteArray.size_extract] at hk ⊢; rw [← h.size]; exact hk)]
theorem Sim.segs {s t : ByteArray} (h : Sim s t) : ∀ n i, s.size + 1 - i ≤ n → (segs s i).all nameOk = true → (segs t i).all nameOk = true := by
  intro n
  induction n with
  | zero => intro i hi _; rw [segs_out (by rw [← h.size]; omega)]; rfl
  | succ n ih =>
    intro i hi hs
    by_cases hle : i ≤ s.size
    · rw [segs_in hle] at hs
      rw [segs_in (by rw [← h.size]; exact hle), ← h.end _ i (Nat.le_refl _)]
      simp only [List.all_cons, Bool.and_eq_true] at hs ⊢
      have hge := (endAt_spec s i hle).1
      exact ⟨(h.cut _ _ (endAt_spec s i hle).2.1).name hs.1, ih _ (by omega) hs.2⟩
    · rw [segs_out (by rw [← h.size]; exact hle)]; rfl
theorem Sim.path {s t : ByteArray} (h : Sim s t) (hs : isP s = true) : isP t = true := by
  unfold isP at hs ⊢
  simp only [Bool.and_eq_true, decide_eq_true_eq] at hs ⊢
  obtain ⟨⟨h1, h2⟩, h3⟩ := hs
  refine ⟨⟨by rw [← h.size]; exact h1, by rw [← h.size]; exact h2.1, (h.slash 0).1 h2.2⟩, ?_⟩
  unfold names at h3 ⊢
  by_cases hr : s.toList = [47]
  · rw [if_pos (h.lit _ (fun b hb => no_dig b _ (by simp) hb) hr)]; rfl
  · rw [if_neg hr] at h3
    rw [if_neg (fun x => hr (h.symm.lit _ (fun b hb => no_dig b _ (by simp) hb) x))]
    exact h.segs _ 1 (Nat.le_refl _) h3
theorem Sim.path_eq {s t : ByteArray} (h : Sim s t) : isP s = isP t := by
  cases hs : isP s with
  | true => rw [h.path hs]
  | false =>
    cases ht : isP t with
    | false => rfl
    | true => rw [h.symm.path ht] at hs; cases hs

/-! TWO NUMBERS -/
theorem dgs_dig : ∀ k u b, b ∈ dgs k u → dig b := by
  intro k
  induction k with
  | zero => intro u b h; simp [dgs] at h
  | succ k ih =>
    intro u b h
    rw [dgs] at h
    rcases List.mem_append.1 h with h | h
    · exact ih _ _ h
    · rw [List.mem_singleton.1 h]
      unfold dig
      rw [UInt8.toNat_ofNat', Nat.mod_eq_of_lt (by omega)]; omega
theorem get_list (l : List UInt8) (i : Nat) (h : i < l.length) : (⟨l.toArray⟩ : ByteArray).get! i = l[i] := by
  rw [Utf8W.get!_of_lt _ i (by rw [bs_size]; exact h)]
  show (l.toArray)[i]'(by simpa using h) = l[i]
  simp
theorem sim_dgs (p : ByteArray) (k u v : Nat) : Sim (p ++ ⟨(dgs k u).toArray⟩) (p ++ ⟨(dgs k v).toArray⟩) := by
  have zu : (⟨(dgs k u).toArray⟩ : ByteArray).size = k := by rw [bs_size, dgs_length]
  have zv : (⟨(dgs k v).toArray⟩ : ByteArray).size = k := by rw [bs_size, dgs_length]
  refine ⟨by rw [ByteArray.size_append, ByteArray.size_append, zu, zv], fun i => ?_⟩
  by_cases h1 : i < p.size
  · left; rw [get_app_left _ _ _ h1, get_app_left _ _ _ h1]
  · by_cases h2 : i < p.size + k
    · right
      obtain ⟨j, rfl⟩ : ∃ j, i = p.size + j := ⟨i - p.size, by omega⟩
      rw [get_app_right _ _ _ (by omega), get_app_right _ _ _ (by omega), get_list _ _ (by rw [dgs_length]; omega), get_list _ _ (by rw [dgs_length]; omega)]
      exact ⟨dgs_dig _ _ _ (List.getElem_mem _), dgs_dig _ _ _ (List.getElem_mem _)⟩
    · left; rw [get_out _ _ (by rw [ByteArray.size_append, zu]; omega), get_out _ _ (by rw [ByteArray.size_append, zv]; omega)]
theorem less_app (p : List UInt8) : ∀ (a b : List UInt8), Op.bytesLess a b = true → Op.bytesLess (p ++ a) (p ++ b) = true := by
  induction p with
  | nil => intro a b h; exact h
  | cons x p ih =>
    intro a b h
    show (decide (x < x) || (x == x && Op.bytesLess (p ++ a) (p ++ b))) = true
    rw [ih a b h]; simp
theorem less_more : ∀ (a b x y : List UInt8), a.length = b.length → Op.bytesLess a b = true → Op.bytesLess (a ++ x) (b ++ y) = true
  | [], [], x, y, _, h => by simp [Op.bytesLess] at h
  | [], _ :: _, _, _, h, _ => by simp at h
  | _ :: _, [], _, _, h, _ => by simp at h
  | c :: a, d :: b, x, y, hl, h => by
    have h1 : (decide (c < d) || (c == d && Op.bytesLess a b)) = true := h
    show (decide (c < d) || (c == d && Op.bytesLess (a ++ x) (b ++ y))) = true
    rcases Bool.or_eq_true_iff.1 h1 with h2 | h2
    · rw [h2]; rfl
    · obtain ⟨h3, h4⟩ := Bool.and_eq_true_iff.1 h2
      rw [h3, less_more a b x y (by simpa using hl) h4]; simp
theorem dgs_less : ∀ k u v, u < v → v < 10 ^ k → Op.bytesLess (dgs k u) (dgs k v) = true := by
  intro k
  induction k with
  | zero => intro u v h1 h2; rw [Nat.pow_zero] at h2; omega
  | succ k ih =>
    intro u v h1 h2
    rw [Nat.pow_succ] at h2
    rw [dgs, dgs]
    by_cases h3 : u / 10 < v / 10
    · exact less_more _ _ _ _ (by rw [dgs_length, dgs_length]) (ih _ _ h3 (by omega))
    · have h4 : u / 10 = v / 10 := by omega
      rw [h4]
      refine less_app _ _ _ ?_
      show (decide (UInt8.ofNat (48 + u % 10) < UInt8.ofNat (48 + v % 10)) || _) = true
      have : UInt8.ofNat (48 + u % 10) < UInt8.ofNat (48 + v % 10) := by
        simp only [UInt8.lt_iff_toNat_lt, UInt8.toNat_ofNat']; omega
      rw [decide_eq_true this]; rfl
/-- two texts with numbers of ten digits behind one text -/
theorem two_less (p : ByteArray) {a b : Nat} (h : a < b) (hb : b ≤ 2147483647) : Op.bytesLess (p ++ ⟨(dgs 10 a).toArray⟩).toList (p ++ ⟨(dgs 10 b).toArray⟩).toList = true := by
  have e : ∀ l : List UInt8, (p ++ ⟨l.toArray⟩).toList = p.toList ++ l := fun l => by
    rw [Lib.toList_data, Lib.toList_data, ByteArray.data_append]; simp
  rw [e, e]
  exact less_app _ _ _ (dgs_less 10 a b h (by omega))
theorem two_parent (p : ByteArray) (a b : Nat) (h : isP (p ++ ⟨(dgs 10 a).toArray⟩) = true) : parentP (p ++ ⟨(dgs 10 a).toArray⟩) = parentP (p ++ ⟨(dgs 10 b).toArray⟩) := by
  have hS := sim_dgs p 10 a b
  have h2 := hS.path h
  have zu : (⟨(dgs 10 a).toArray⟩ : ByteArray).size = 10 := by rw [bs_size, dgs_length]
  have hsz : (p ++ ⟨(dgs 10 a).toArray⟩).size = p.size + 10 := by rw [ByteArray.size_append, zu]
  have hnr : ∀ c, ¬ (p ++ ⟨(dgs 10 c).toArray⟩).toList = [47] := fun c x => by
    have := root_is x
    have z : (p ++ ⟨(dgs 10 c).toArray⟩ : ByteArray).size = 1 := by rw [this]; rfl
    rw [ByteArray.size_append, show (⟨(dgs 10 c).toArray⟩ : ByteArray).size = 10 by rw [bs_size, dgs_length]] at z
    omega
  have hc := cut_of h (hnr a)
  obtain ⟨L, hL⟩ : ∃ L, lastTo (p ++ ⟨(dgs 10 a).toArray⟩) (p ++ ⟨(dgs 10 a).toArray⟩).size = L := ⟨_, rfl⟩
  rw [hL] at hc
  have hLp : L < p.size := by
    by_cases hx : L < p.size
    · exact hx
    · exfalso
      have h3 := hc.mid
      have h4 := hc.lt
      obtain ⟨j, rfl⟩ : ∃ j, L = p.size + j := ⟨L - p.size, by omega⟩
      rw [get_app_right _ _ _ (by omega), get_list _ _ (by rw [dgs_length]; omega)] at h3
      have := dgs_dig 10 a _ (List.getElem_mem (by rw [dgs_length]; omega : j < (dgs 10 a).length))
      unfold dig at this
      omega
  have hL2 : lastTo (p ++ ⟨(dgs 10 b).toArray⟩) (p ++ ⟨(dgs 10 b).toArray⟩).size = L :=
    last_is _ (isP_slash h2) (by rw [← hS.size]; have := hc.lt; omega) ((hS.slash L).1 hc.mid) (fun j h1 h3 x => hc.no j h1 (by rw [hS.size]; exact h3) ((hS.slash j).2 x))
  have e1 : ∀ q : ByteArray, isP q = true → ¬ q.toList = [47] → parentP q = if lastTo q q.size = 0 then rootB else q.extract 0 (lastTo q q.size) := fun q x y => by unfold parentP; rw [if_pos ⟨x, y⟩]
  rw [e1 _ h (hnr a), e1 _ h2 (hnr b), hL, hL2, extract_app_left _ _ _ _ (by omega), extract_app_left _ _ _ _ (by omega)]
end Go.Proofs.YtcilfjmiiodfgaaDoor.Q
