import Derived.Test.YtgjgafibipepeaaGreatDoorQf
namespace Go.Proofs.YtgjgafibipepeaaGreatDoor.Q
open Go.RowKit Go.Lib
open Go.Proofs.YtgjgafibipepeaaGreatDoor.Pr (S39 S41 z39 z41)
open Go.Proofs.YtgjgafibipepeaaGreatDoor
set_option linter.unusedVariables false
set_option linter.unusedSimpArgs false
/-! WHAT FIX AND ALLOWS ANSWER: PLAIN LAWS -/
theorem bytes_inj {a b : ByteArray} : a.toList = b.toList ↔ a = b := by
  constructor
  · intro h
    rw [Lib.toList_data, Lib.toList_data] at h
    obtain ⟨a⟩ := a
    obtain ⟨b⟩ := b
    exact congrArg ByteArray.mk (Array.toList_inj.1 h)
  · rintro rfl; rfl
theorem eqI_iff {x y : S39} : eqI x y = true ↔ x = y := by
  obtain ⟨a, b⟩ := x
  obtain ⟨c, d⟩ := y
  unfold eqI
  simp only [Bool.and_eq_true, beq_iff_eq, bytes_inj, S39.mk.injEq]
theorem eqE_iff {x y : S41} : eqE x y = true ↔ x = y := by
  obtain ⟨p, ⟨a, b⟩⟩ := x
  obtain ⟨q, ⟨c, d⟩⟩ := y
  unfold eqE
  simp only [Bool.and_eq_true, beq_iff_eq, bytes_inj, S39.mk.injEq, S41.mk.injEq]
theorem anyE_mem {l : List S41} {x : S41} : l.any (eqE x) = true ↔ x ∈ l := by
  rw [List.any_eq_true]
  constructor
  · rintro ⟨y, hy, h⟩; rw [eqE_iff.1 h]; exact hy
  · intro h; exact ⟨x, h, eqE_iff.2 rfl⟩
theorem anyI_mem {l : List S39} {x : S39} : l.any (eqI x) = true ↔ x ∈ l := by
  rw [List.any_eq_true]
  constructor
  · rintro ⟨y, hy, h⟩; rw [eqI_iff.1 h]; exact hy
  · intro h; exact ⟨x, h, eqI_iff.2 rfl⟩
theorem nodup_take {α : Type} (l : List α) (z : α) : l.Nodup ↔ ∀ j, j < l.length → l.getD j z ∉ l.take j := by
  rw [List.Nodup, List.pairwise_iff_getElem]
  constructor
  · intro h j hj hm
    obtain ⟨i, hi, e⟩ := List.mem_take_iff_getElem.1 hm
    have hi' : i < j := by omega
    refine h i j (by omega) hj hi' ?_
    rw [e]; simp [List.getD, List.getElem?_eq_getElem hj]
  · intro h i j hi hj hij e
    refine h j hj (List.mem_take_iff_getElem.2 ⟨i, by omega, ?_⟩)
    rw [e]; simp [List.getD, List.getElem?_eq_getElem hj]
theorem unE_from (l : List S41) : ∀ d i, i + d = l.length → (eqE_un l d i = true ↔ ∀ j, i ≤ j → j < l.length → l.getD j z41 ∉ l.take j)
  | 0, i, h => ⟨fun _ j h1 h2 => absurd h2 (by omega), fun _ => rfl⟩
  | d + 1, i, h => by
    unfold eqE_un
    rw [Bool.and_eq_true, Bool.not_eq_true', Bool.eq_false_iff, Ne, anyE_mem, unE_from l d (i + 1) (by omega)]
    constructor
    · rintro ⟨h1, h2⟩ j hj hl
      by_cases e : j = i
      · subst e; exact h1
      · exact h2 j (by omega) hl
    · intro h1
      exact ⟨h1 i (Nat.le_refl _) (by omega), fun j hj hl => h1 j (by omega) hl⟩
theorem unE_nodup (l : List S41) : eqE_un l l.length 0 = true ↔ l.Nodup := by
  rw [unE_from l l.length 0 (by omega), nodup_take l z41]
  exact ⟨fun h j hj => h j (Nat.zero_le _) hj, fun h j _ hj => h j hj⟩
theorem unI_from (l : List S39) : ∀ d i, i + d = l.length → (eqI_un l d i = true ↔ ∀ j, i ≤ j → j < l.length → l.getD j z39 ∉ l.take j)
  | 0, i, h => ⟨fun _ j h1 h2 => absurd h2 (by omega), fun _ => rfl⟩
  | d + 1, i, h => by
    unfold eqI_un
    rw [Bool.and_eq_true, Bool.not_eq_true', Bool.eq_false_iff, Ne, anyI_mem, unI_from l d (i + 1) (by omega)]
    constructor
    · rintro ⟨h1, h2⟩ j hj hl
      by_cases e : j = i
      · subst e; exact h1
      · exact h2 j (by omega) hl
    · intro h1
      exact ⟨h1 i (Nat.le_refl _) (by omega), fun j hj hl => h1 j (by omega) hl⟩
theorem unI_nodup (l : List S39) : eqI_un l l.length 0 = true ↔ l.Nodup := by
  rw [unI_from l l.length 0 (by omega), nodup_take l z39]
  exact ⟨fun h j hj => h j (Nat.zero_le _) hj, fun h j _ hj => h j hj⟩
theorem checkB_iff {l : List S41} : checkB l = true ↔ l.length ≤ 4 ∧ l.Nodup ∧ ∀ x ∈ l, ent x = true := by
  unfold checkB
  rw [Bool.and_eq_true, Bool.and_eq_true, decide_eq_true_eq, unE_nodup, Bool.not_eq_true', List.any_eq_false]
  constructor
  · rintro ⟨h1, h2, h3⟩; exact ⟨h1, h2, fun x hx => by simpa using h3 x hx⟩
  · rintro ⟨h1, h2, h3⟩; exact ⟨h1, h2, fun x hx => by simpa using h3 x hx⟩
theorem checkIB_iff {l : List S39} : checkIB l = true ↔ l.length ≤ 4 ∧ l.Nodup ∧ ∀ x ∈ l, cli x = true := by
  unfold checkIB
  rw [Bool.and_eq_true, Bool.and_eq_true, decide_eq_true_eq, unI_nodup, Bool.not_eq_true', List.any_eq_false]
  constructor
  · rintro ⟨h1, h2, h3⟩; exact ⟨h1, h2, fun x hx => by simpa using h3 x hx⟩
  · rintro ⟨h1, h2, h3⟩; exact ⟨h1, h2, fun x hx => by simpa using h3 x hx⟩
theorem putB_mem {acc : List S41} {x : S41} (h : x ∈ acc) : putB acc x = acc := by unfold putB; rw [if_pos (anyE_mem.2 h)]
theorem putB_new {acc : List S41} {x : S41} (h : x ∉ acc) : putB acc x = acc ++ [x] := by unfold putB; rw [if_neg (fun e => h (anyE_mem.1 e))]
/-- a list under way is right -/
def Good (acc : List S41) : Prop := acc.Nodup ∧ ∀ x ∈ acc, ent x = true ∧ authB x = false
theorem good_put {acc : List S41} {x : S41} (h : Good acc) (hx : ent x = true) (ha : authB x = false) : Good (putB acc x) ∧ putB acc x ≠ [] := by
  by_cases hm : x ∈ acc
  · rw [putB_mem hm]; exact ⟨h, List.ne_nil_of_mem hm⟩
  · rw [putB_new hm]
    refine ⟨⟨?_, fun y hy => ?_⟩, by simp⟩
    · rw [List.nodup_append]
      exact ⟨h.1, by simp, fun a ha b hb => by rw [List.mem_singleton.1 hb]; exact fun e => hm (e ▸ ha)⟩
    · rcases List.mem_append.1 hy with hy | hy
      · exact h.2 y hy
      · rw [List.mem_singleton.1 hy]; exact ⟨hx, ha⟩
theorem named_ent {i : S39} (hn : namedB i = true) (hc : cli i = true) : entI i = true ∧ (i.f0.toList == sAuth) = false := by
  have h1 : i.f0.toList = sName := beq_iff_eq.1 hn
  have h2 : schNo i.f0.data.toList = 3 := by rw [← Lib.toList_data, h1]; rfl
  unfold cli clientB at hc
  rw [h2] at hc
  refine ⟨?_, by rw [h1]; rfl⟩
  unfold entI entryB
  rw [h2]; exact hc
theorem good_putAll {q : Int} (h1 : 1 ≤ q) (h2 : q ≤ 31) : ∀ (who : List S39) (acc : List S41), (∀ i ∈ who, cli i = true) → Good acc → Good (putAll acc q who) ∧ ((acc ≠ [] ∨ who.any namedB = true) → putAll acc q who ≠ [])
  | [], acc, _, h => ⟨h, fun h => by rcases h with h | h; exact h; cases h⟩
  | i :: r, acc, hw, h => by
    have hr : ∀ i ∈ r, cli i = true := fun j hj => hw j (List.mem_cons_of_mem _ hj)
    unfold putAll
    rw [List.foldl_cons]
    change Good (putAll (if namedB i = true then putB acc ⟨q, i⟩ else acc) q r) ∧ ((acc ≠ [] ∨ (i :: r).any namedB = true) → putAll (if namedB i = true then putB acc ⟨q, i⟩ else acc) q r ≠ [])
    by_cases hn : namedB i = true
    · rw [if_pos hn]
      obtain ⟨e1, e2⟩ := named_ent hn (hw i List.mem_cons_self)
      have g := good_put (x := ⟨q, i⟩) h (by unfold ent; simp [h1, h2, e1]) e2
      have ih := good_putAll h1 h2 r (putB acc ⟨q, i⟩) hr g.1
      exact ⟨ih.1, fun _ => ih.2 (.inl g.2)⟩
    · rw [if_neg hn]
      have ih := good_putAll h1 h2 r acc hr h
      refine ⟨ih.1, fun ho => ih.2 ?_⟩
      rcases ho with ho | ho
      · exact .inl ho
      · rw [List.any_cons, Bool.or_eq_true] at ho
        rcases ho with ho | ho
        · exact absurd ho hn
        · exact .inr ho
theorem good_loop {who : List S39} (hw : ∀ i ∈ who, cli i = true) : ∀ (l acc f : List S41), (∀ x ∈ l, ent x = true) → Good acc → fixLoop who l acc = some f → Good f ∧ ((acc ≠ [] ∨ l ≠ []) → f ≠ [])
  | [], acc, f, _, h, e => by
    cases e
    exact ⟨h, fun h => by rcases h with h | h; exact h; exact absurd rfl h⟩
  | x :: r, acc, f, hl, h, e => by
    have hr : ∀ x ∈ r, ent x = true := fun y hy => hl y (List.mem_cons_of_mem _ hy)
    have hx := hl x List.mem_cons_self
    unfold fixLoop at e
    by_cases ha : authB x = true
    · rw [if_pos ha] at e
      by_cases hn : who.any namedB = true
      · rw [if_pos hn] at e
        have hq : 1 ≤ x.f0 ∧ x.f0 ≤ 31 := by unfold ent at hx; simp only [Bool.and_eq_true, decide_eq_true_eq] at hx; exact ⟨hx.1, hx.2.1⟩
        have g := good_putAll hq.1 hq.2 who acc hw h
        have ih := good_loop hw r _ f hr g.1 e
        exact ⟨ih.1, fun _ => ih.2 (.inl (g.2 (.inr hn)))⟩
      · rw [if_neg hn] at e; cases e
    · rw [if_neg ha] at e
      have g := good_put h hx (Bool.eq_false_iff.2 ha)
      have ih := good_loop hw r _ f hr g.1 e
      exact ⟨ih.1, fun _ => ih.2 (.inl g.2)⟩
/-- what Fix answers is right, has no auth, and is not empty -/
theorem fix_right {l f : List S41} {who : List S39} (h : fixB l who = some f) : checkB f = true ∧ (∀ x ∈ f, authB x = false) ∧ f ≠ [] := by
  unfold fixB at h
  split at h
  · rename_i h1
    split at h
    · rename_i h2
      split at h
      · cases h
        refine ⟨by kernel_rfl, fun x hx => ?_, by simp⟩
        rw [List.mem_singleton.1 hx]; kernel_rfl
      · rename_i h3
        obtain ⟨f', hf, h4⟩ := Option.bind_eq_some_iff.1 h
        split at h4
        · rename_i h5
          cases h4
          obtain ⟨g, hne⟩ := good_loop (checkIB_iff.1 h2).2.2 l [] f (checkB_iff.1 h1).2.2 ⟨List.nodup_nil, fun x hx => absurd hx List.not_mem_nil⟩ hf
          exact ⟨checkB_iff.2 ⟨h5, g.1, fun x hx => (g.2 x hx).1⟩, fun x hx => (g.2 x hx).2, hne (.inr fun e => h3 (by rw [e]; rfl))⟩
        · cases h4
    · cases h
  · cases h
/-! BITS OF PERMISSIONS -/
abbrev anot (a b : Int) : Int := bits .andNot .i8 a b
abbrev orr (a b : Int) : Int := bits .or .i8 a b
theorem to_fin {a : Int} (h : 0 ≤ a ∧ a ≤ 31) : ∃ k : Fin 32, a = (k.1 : Int) := ⟨⟨a.toNat, by omega⟩, by simp; omega⟩
theorem sub_or {a b : Int} (ha : 0 ≤ a ∧ a ≤ 31) (hb : 0 ≤ b ∧ b ≤ 31) : anot a (orr a b) = 0 ∧ anot b (orr a b) = 0 ∧ anot a a = 0 := by
  obtain ⟨i, rfl⟩ := to_fin ha
  obtain ⟨j, rfl⟩ := to_fin hb
  have : ∀ i j : Fin 32, anot i.1 (orr i.1 j.1) = 0 ∧ anot j.1 (orr i.1 j.1) = 0 ∧ anot i.1 i.1 = 0 := by decide +kernel
  exact this i j
theorem ent_range {x : S41} (h : ent x = true) : 0 ≤ x.f0 ∧ x.f0 ≤ 31 := by
  unfold ent at h; simp only [Bool.and_eq_true, decide_eq_true_eq] at h
  exact ⟨by omega, h.2.1⟩
/-- a fixed list -/
structure IsFixed (f : List S41) : Prop where
  right : checkB f = true
  noAuth : ∀ x ∈ f, authB x = false
  some : f ≠ []
theorem IsFixed.range {f : List S41} (h : IsFixed f) : ∀ x ∈ f, 0 ≤ x.f0 ∧ x.f0 ≤ 31 := fun x hx => ent_range ((checkB_iff.1 h.right).2.2 x hx)
end Go.Proofs.YtgjgafibipepeaaGreatDoor.Q
