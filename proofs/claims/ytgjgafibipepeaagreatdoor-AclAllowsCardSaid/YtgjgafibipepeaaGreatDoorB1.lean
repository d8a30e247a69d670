import Derived.Test.YtgjgafibipepeaaGreatDoorQf
namespace Go.Proofs.YtgjgafibipepeaaGreatDoor.Q
open Go.RowKit Go.Lib
open Go.Proofs.YtgjgafibipepeaaGreatDoor.Pr (S39 S41 z39 z41)
open Go.Proofs.YtgjgafibipepeaaGreatDoor
set_option linter.unusedVariables false
set_option linter.unusedSimpArgs false
/-! WHAT FIX AND ALLOWS ANSWER: PLAIN LAWS -/
theorem bytes_inj {a b : ByteArray} : a.toList = b.toList ↔ a = b := by
  constructor
  · intro h
    rw [Lib.toList_data, Lib.toList_data] at h
    obtain ⟨a⟩ := a
    obtain ⟨b⟩ := b
    exact congrArg ByteArray.mk (Array.toList_inj.1 h)
  · rintro rfl; rfl
theorem eqI_iff {x y : S39} : eqI x y = true ↔ x = y := by
  obtain ⟨a, b⟩ := x
  obtain ⟨c, d⟩ := y
  unfold eqI
  simp only [Bool.and_eq_true, beq_iff_eq, bytes_inj, S39.mk.injEq]
theorem eqE_iff {x y : S41} : eqE x y = true ↔ x = y := by
  obtain ⟨p, ⟨a, b⟩⟩ := x
  obtain ⟨q, ⟨c, d⟩⟩ := y
  unfold eqE
  simp only [Bool.and_eq_true, beq_iff_eq, bytes_inj, S39.mk.injEq, S41.mk.injEq]
theorem anyE_mem {l : List S41} {x : S41} : l.any (eqE x) = true ↔ x ∈ l := by
  rw [List.any_eq_true]
  constructor
  · rintro ⟨y, hy, h⟩; rw [eqE_iff.1 h]; exact hy
  · intro h; exact ⟨x, h, eqE_iff.2 rfl⟩
theorem anyI_mem {l : List S39} {x : S39} : l.any (eqI x) = true ↔ x ∈ l := by
  rw [List.any_eq_true]
  constructor
  · rintro ⟨y, hy, h⟩; rw [eqI_iff.1 h]; exact hy
  · intro h; exact ⟨x, h, eqI_iff.2 rfl⟩
theorem nodup_take {α : Type} (l : List α) (z : α) : l.Nodup ↔ ∀ j, j < l.length → l.getD j z ∉ l.take j := by
  rw [List.Nodup, List.pairwise_iff_getElem]
  constructor
  · intro h j hj hm
    obtain ⟨i, hi, e⟩ := List.mem_take_iff_getElem.1 hm
    have hi' : i < j := by omega
    refine h i j (by omega) hj hi' ?_
    rw [e]; simp [List.getD, List.getElem?_eq_getElem hj]
  · intro h i j hi hj hij e
    refine h j hj (List.mem_take_iff_getElem.2 ⟨i, by omega, ?_⟩)
    rw [e]; simp [List.getD, List.getElem?_eq_getElem hj]
theorem unE_from (l : List S41) : ∀ d i, i + d = l.length → (eqE_un l d i = true ↔ ∀ j, i ≤ j → j < l.length → l.getD j z41 ∉ l.take j)
  | 0, i, h => ⟨fun _ j h1 h2 => absurd h2 (by omega), fun _ => rfl⟩
  | d + 1, i, h => by
    unfold eqE_un
    rw [Bool.and_eq_true, Bool.not_eq_true', Bool.eq_false_iff, Ne, anyE_mem, unE_from l d (i + 1) (by omega)]
    constructor
    · rintro ⟨h1, h2⟩ j hj hl
      by_cases e : j = i
      · subst e; exact h1
      · exact h2 j (by omega) hl
    · intro h1
      exact ⟨h1 i (Nat.le_refl _) (by omega), fun j hj hl => h1 j (by omega) hl⟩
theorem unE_nodup (l : List S41) : eqE_un l l.length 0 = true ↔ l.Nodup := by
  rw [unE_from l l.length 0 (by omega), nodup_take l z41]
  exact ⟨fun h j hj => h j (Nat.zero_le _) hj, fun h j _ hj => h j hj⟩
theorem unI_from (l : List S39) : ∀ d i, i + d = l.length → (eqI_un l d i = true ↔ ∀ j, i ≤ j → j < l.length → l.getD j z39 ∉ l.take j)
  | 0, i, h => ⟨fun _ j h1 h2 => absurd h2 (by omega), fun _ => rfl⟩
  | d + 1, i, h => by
    unfold eqI_un
    rw [Bool.and_eq_true, Bool.not_eq_true', Bool.eq_false_iff, Ne, anyI_mem, unI_from l d (i + 1) (by omega)]
    constructor
    · rintro ⟨h1, h2⟩ j hj hl
      by_cases e : j = i
      · subst e; exact h1
      · exact h2 j (by omega) hl
    · intro h1
      exact ⟨h1 i (Nat.le_refl _) (by omega), fun j hj hl => h1 j (by omega) hl⟩
theorem unI_nodup (l : List S39) : eqI_un l l.length 0 = true ↔ l.Nodup := by
  rw [unI_from l l.length 0 (by omega), nodup_take l z39]
  exact ⟨fun h j hj => h j (Nat.zero_le _) hj, fun h j _ hj => h j hj⟩
theorem checkB_iff {l : List S41} : checkB l = true ↔ l.length ≤ 4 ∧ l.Nodup ∧ ∀ x ∈ l, ent x = true := by
  unfold checkB
  rw [Bool.and_eq_true, Bool.and_eq_true, decide_eq_true_eq, unE_nodup, Bool.not_eq_true', List.any_eq_false]
  constructor
  · rintro ⟨h1, h2, h3⟩; exact ⟨h1, h2, fun x hx => by simpa using h3 x hx⟩
  · rintro ⟨h1, h2, h3⟩; exact ⟨h1, h2, fun x hx => by simpa using h3 x hx⟩
theorem checkIB_iff {l : List S39} : checkIB l = true ↔ l.length ≤ 4 ∧ l.Nodup ∧ ∀ x ∈ l, cli x = true := by
  unfold checkIB
  rw [Bool.and_eq_true, Bool.and_eq_true, decide_eq_true_eq, unI_nodup, Bool.not_eq_true', List.any_eq_false]
  constructor
  · rintro ⟨h1, h2, h3⟩; exact ⟨h1, h2, fun x hx => by simpa using h3 x hx⟩
  · rintro ⟨h1, h2, h3⟩; exact ⟨h1, h2, fun x hx => by simpa using h3 x hx⟩
theorem putB_mem {acc : List S41} {x : S41} (h : x ∈ acc) : putB acc x = acc := by unfold putB; rw [if_pos (anyE_mem.2 h)]
theorem putB_new {acc : List S41} {x : S41} (h : x ∉ acc) : putB acc x = acc ++ [x] := by unfold putB; rw [if_neg (fun e => h (anyE_mem.1 e))]
/-- a list under way is right -/
def Good (acc : List S41) : Prop := acc.Nodup ∧ ∀ x ∈ acc, ent x = true ∧ authB x = false
theorem good_put {acc : List S41} {x : S41} (h : Good acc) (hx : ent x = true) (ha : authB x = false) : Good (putB acc x) ∧ putB acc x ≠ [] := by
  by_cases hm : x ∈ acc
  · rw [putB_mem hm]; exact ⟨h, List.ne_nil_of_mem hm⟩
  · rw [putB_new hm]
    refine ⟨⟨?_, fun y hy => ?_⟩, by simp⟩
    · rw [List.nodup_append]
      exact ⟨h.1, by simp, fun a ha b hb => by rw [List.mem_singleton.1 hb]; exact fun e => hm (e ▸ ha)⟩
    · rcases List.mem_append.1 hy with hy | hy
      · exact h.2 y hy
      · rw [List.mem_singleton.1 hy]; exact ⟨hx, ha⟩
theorem named_ent {i : S39} (hn : namedB i = true) (hc : cli i = true) : entI i = true ∧ (i.f0.toList == sAuth) = false := by
  have h1 : i.f0.toList = sName := beq_iff_eq.1 hn
  have h2 : schNo i.f0.data.toList = 3 := by rw [← Lib.toList_data, h1]; rfl
  unfold cli clientB at hc
  rw [h2] at hc
  refine ⟨?_, by rw [h1]; rfl⟩
  unfold entI entryB
  rw [h2]; exact hc
theorem good_putAll {q : Int} (h1 : 1 ≤ q) (h2 : q ≤ 31) : ∀ (who : List S39) (acc : List S41), (∀ i ∈ who, cli i = true) → Good acc → Good (putAll acc q who) ∧ ((acc ≠ [] ∨ who.any namedB = true) → putAll acc q who ≠ [])
  | [], acc, _, h => ⟨h, fun h => by rcases h with h | h; exact h; cases h⟩
  | i :: r, acc, hw, h => by
    have hr : ∀ i ∈ r, cli i = true := fun j hj => hw j (List.mem_cons_of_mem _ hj)
    unfold putAll
    rw [List.foldl_cons]
    change Good (putAll (if namedB i = true then putB acc ⟨q, i⟩ else acc) q r) ∧ ((acc ≠ [] ∨ (i :: r).any namedB = true) → putAll (if namedB i = true then putB acc ⟨q, i⟩ else acc) q r ≠ [])
    by_cases hn : namedB i = true
    · rw [if_pos hn]
      obtain ⟨e1, e2⟩ := named_ent hn (hw i List.mem_cons_self)
      have g := good_put (x := ⟨q, i⟩) h (by unfold ent; simp [h1, h2, e1]) e2
      have ih := good_putAll h1 h2 r (putB acc ⟨q, i⟩) hr g.1
      exact ⟨ih.1, fun _ => ih.2 (.inl g.2)⟩
    · rw [if_neg hn]
      have ih := good_putAll h1 h2 r acc hr h
      refine ⟨ih.1, fun ho => ih.2 ?_⟩
      rcases ho with ho | ho
      · exact .inl ho
      · rw [List.any_cons, Bool.or_eq_true] at ho
        rcases ho with ho | ho
        · exact absurd ho hn
        · exact .inr ho
theorem good_loop {who : List S39} (hw : ∀ i ∈ who, cli i = true) : ∀ (l acc f : List S41), (∀ x ∈ l, ent x = true) → Good acc → fixLoop who l acc = some f → Good f ∧ ((acc ≠ [] ∨ l ≠ []) → f ≠ [])
  | [], acc, f, _, h, e => by
    cases e
    exact ⟨h, fun h => by rcases h with h | h; exact h; exact absurd rfl h⟩
  | x :: r, acc, f, hl, h, e => by
    have hr : ∀ x ∈ r, ent x = true := fun y hy => hl y (List.mem_cons_of_mem _ hy)
    have hx := hl x List.mem_cons_self
    unfold fixLoop at e
    by_cases ha : authB x = true
    · rw [if_pos ha] at e
      by_cases hn : who.any namedB = true
      · rw [if_pos hn] at e
        have hq : 1 ≤ x.f0 ∧ x.f0 ≤ 31 := by unfold ent at hx; simp only [Bool.and_eq_true, decide_eq_true_eq] at hx; exact ⟨hx.1, hx.2.1⟩
        have g := good_putAll hq.1 hq.2 who acc hw h
        have ih := good_loop hw r _ f hr g.1 e
        exact ⟨ih.1, fun _ => ih.2 (.inl (g.2 (.inr hn)))⟩
      · rw [if_neg hn] at e; cases e
    · rw [if_neg ha] at e
      have g := good_put h hx (Bool.eq_false_iff.2 ha)
      have ih := good_loop hw r _ f hr g.1 e
      exact ⟨ih.1, fun _ => ih.2 (.inl g.2)⟩
/-- what Fix answers is right, has no auth, and is not empty -/
theorem fix_right {l f : List S41} {who : List S39} (h : fixB l who = some f) : checkB f = true ∧ (∀ x ∈ f, authB x = false) ∧ f ≠ [] := by
  unfold fixB at h
  split at h
  · rename_i h1
    split at h
    · rename_i h2
      split at h
      · cases h
        refine ⟨by kernel_rfl, fun x hx => ?_, by simp⟩
        rw [List.mem_singleton.1 hx]; kernel_rfl
      · rename_i h3
        obtain ⟨f', hf, h4⟩ := Option.bind_eq_some_iff.1 h
        split at h4
        · rename_i h5
          cases h4
          obtain ⟨g, hne⟩ := good_loop (checkIB_iff.1 h2).2.2 l [] f (checkB_iff.1 h1).2.2 ⟨List.nodup_nil, fun x hx => absurd hx List.not_mem_nil⟩ hf
          exact ⟨checkB_iff.2 ⟨h5, g.1, fun x hx => (g.2 x hx).1⟩, fun x hx => (g.2 x hx).2, hne (.inr fun e => h3 (by rw [e]; rfl))⟩
        · cases h4
    · cases h
  · cases h
theorem loop_same {who : List S39} : ∀ (l acc : List S41), (∀ x ∈ l, authB x = false) → (acc ++ l).Nodup → fixLoop who l acc = some (acc ++ l)
  | [], acc, _, _ => by rw [List.append_nil]; rfl
  | x :: r, acc, ha, hn => by
    have hx := ha x List.mem_cons_self
    unfold fixLoop
    rw [if_neg (by rw [hx]; simp), putB_new (fun hm => ?_), loop_same r _ (fun y hy => ha y (List.mem_cons_of_mem _ hy)) (by simpa using hn)]
    · simp
    · rw [List.nodup_append] at hn
      exact hn.2.2 x hm x List.mem_cons_self rfl
/-- Fix of what is fixed -/
theorem fix_again {f : List S41} {who : List S39} (h1 : checkB f = true) (h2 : ∀ x ∈ f, authB x = false) (h3 : f ≠ []) (h4 : checkIB who = true) : fixB f who = some f := by
  unfold fixB
  have h5 := checkB_iff.1 h1
  rw [if_pos h1, if_pos h4, if_neg (fun e => h3 (List.eq_nil_of_length_eq_zero e)), loop_same f [] h2 (by simpa using h5.2.1), Option.bind_some, if_pos (by simpa using h5.1)]
  simp
theorem fix_not {f : List S41} {who : List S39} (h4 : checkIB who = false) : fixB f who = none := by
  unfold fixB
  rw [h4]
  simp
/-! BITS OF PERMISSIONS -/
abbrev anot (a b : Int) : Int := bits .andNot .i8 a b
abbrev orr (a b : Int) : Int := bits .or .i8 a b
abbrev andd (a b : Int) : Int := bits .and .i8 a b
theorem to_fin {a : Int} (h : 0 ≤ a ∧ a ≤ 31) : ∃ k : Fin 32, a = (k.1 : Int) := ⟨⟨a.toNat, by omega⟩, by simp; omega⟩
theorem or_range {a b : Int} (ha : 0 ≤ a ∧ a ≤ 31) (hb : 0 ≤ b ∧ b ≤ 31) : 0 ≤ orr a b ∧ orr a b ≤ 31 := by
  obtain ⟨i, rfl⟩ := to_fin ha
  obtain ⟨j, rfl⟩ := to_fin hb
  have : ∀ i j : Fin 32, 0 ≤ orr i.1 j.1 ∧ orr i.1 j.1 ≤ 31 := by decide +kernel
  exact this i j
theorem sub_trans {a b c : Int} (ha : 0 ≤ a ∧ a ≤ 31) (hb : 0 ≤ b ∧ b ≤ 31) (hc : 0 ≤ c ∧ c ≤ 31) (h1 : anot a b = 0) (h2 : anot b c = 0) : anot a c = 0 := by
  obtain ⟨i, rfl⟩ := to_fin ha
  obtain ⟨j, rfl⟩ := to_fin hb
  obtain ⟨k, rfl⟩ := to_fin hc
  have : ∀ i j k : Fin 32, anot i.1 j.1 = 0 → anot j.1 k.1 = 0 → anot i.1 k.1 = 0 := by decide +kernel
  exact this i j k h1 h2
theorem or_sub {a b c : Int} (ha : 0 ≤ a ∧ a ≤ 31) (hb : 0 ≤ b ∧ b ≤ 31) (hc : 0 ≤ c ∧ c ≤ 31) (h1 : anot a c = 0) (h2 : anot b c = 0) : anot (orr a b) c = 0 := by
  obtain ⟨i, rfl⟩ := to_fin ha
  obtain ⟨j, rfl⟩ := to_fin hb
  obtain ⟨k, rfl⟩ := to_fin hc
  have : ∀ i j k : Fin 32, anot i.1 k.1 = 0 → anot j.1 k.1 = 0 → anot (orr i.1 j.1) k.1 = 0 := by decide +kernel
  exact this i j k h1 h2
theorem sub_or {a b : Int} (ha : 0 ≤ a ∧ a ≤ 31) (hb : 0 ≤ b ∧ b ≤ 31) : anot a (orr a b) = 0 ∧ anot b (orr a b) = 0 ∧ anot a a = 0 := by
  obtain ⟨i, rfl⟩ := to_fin ha
  obtain ⟨j, rfl⟩ := to_fin hb
  have : ∀ i j : Fin 32, anot i.1 (orr i.1 j.1) = 0 ∧ anot j.1 (orr i.1 j.1) = 0 ∧ anot i.1 i.1 = 0 := by decide +kernel
  exact this i j
/-- bit by bit -/
theorem sub_bits {p m : Int} (hp : 0 ≤ p ∧ p ≤ 31) (hm : 0 ≤ m ∧ m ≤ 31) : (anot p m == 0) = ([1, 2, 4, 8, 16].all fun b => (andd p b == 0) || (anot b m == 0)) := by
  obtain ⟨i, rfl⟩ := to_fin hp
  obtain ⟨j, rfl⟩ := to_fin hm
  have : ∀ i j : Fin 32, (anot i.1 j.1 == 0) = ([1, 2, 4, 8, 16].all fun b => (andd i.1 b == 0) || (anot b j.1 == 0)) := by decide +kernel
  exact this i j
def wayB (who : List S39) (x : S41) : Bool := (x.f1.f0.toList == sWorld) || who.any (meE x)
theorem mayB_eq (who : List S39) (l : List S41) (acc : Int) : mayB who l acc = l.foldl (fun a x => if wayB who x = true then orr a x.f0 else a) acc := rfl
theorem may_range (who : List S39) : ∀ (l : List S41) (acc : Int), (∀ x ∈ l, 0 ≤ x.f0 ∧ x.f0 ≤ 31) → (0 ≤ acc ∧ acc ≤ 31) → 0 ≤ mayB who l acc ∧ mayB who l acc ≤ 31
  | [], acc, _, h => h
  | x :: r, acc, hl, h => by
    rw [mayB_eq, List.foldl_cons, ← mayB_eq]
    refine may_range who r _ (fun y hy => hl y (List.mem_cons_of_mem _ hy)) ?_
    split
    · exact or_range h (hl x List.mem_cons_self)
    · exact h
theorem may_mono (who who' : List S39) : ∀ (l : List S41) (a b : Int), (∀ x ∈ l, 0 ≤ x.f0 ∧ x.f0 ≤ 31) → (∀ x ∈ l, wayB who x = true → wayB who' x = true) → (0 ≤ a ∧ a ≤ 31) → (0 ≤ b ∧ b ≤ 31) → anot a b = 0 → anot (mayB who l a) (mayB who' l b) = 0
  | [], a, b, _, _, _, _, h => h
  | x :: r, a, b, hl, hw, ha, hb, h => by
    rw [mayB_eq, mayB_eq, List.foldl_cons, List.foldl_cons, ← mayB_eq, ← mayB_eq]
    have hx := hl x List.mem_cons_self
    have hob := or_range hb hx
    have hl' : ∀ y ∈ r, 0 ≤ y.f0 ∧ y.f0 ≤ 31 := fun y hy => hl y (List.mem_cons_of_mem _ hy)
    have hw' : ∀ y ∈ r, wayB who y = true → wayB who' y = true := fun y hy => hw y (List.mem_cons_of_mem _ hy)
    by_cases h1 : wayB who x = true
    · rw [if_pos h1, if_pos (hw x List.mem_cons_self h1)]
      refine may_mono who who' r _ _ hl' hw' (or_range ha hx) hob ?_
      exact or_sub ha hx hob (sub_trans ha hb hob h (sub_or hb hx).1) (sub_or hb hx).2.1
    · rw [if_neg h1]
      by_cases h2 : wayB who' x = true
      · rw [if_pos h2]
        exact may_mono who who' r _ _ hl' hw' ha hob (sub_trans ha hb hob h (sub_or hb hx).1)
      · rw [if_neg h2]
        exact may_mono who who' r _ _ hl' hw' ha hb h
theorem may_more (who : List S39) (l : List S41) (x : S41) (hl : ∀ x ∈ l, 0 ≤ x.f0 ∧ x.f0 ≤ 31) (hx : 0 ≤ x.f0 ∧ x.f0 ≤ 31) : anot (mayB who l 0) (mayB who (l ++ [x]) 0) = 0 := by
  have h := may_range who l 0 hl ⟨by omega, by omega⟩
  rw [mayB_eq who (l ++ [x]), List.foldl_append, ← mayB_eq]
  show anot _ (if wayB who x = true then orr (mayB who l 0) x.f0 else mayB who l 0) = 0
  split
  · exact (sub_or h hx).1
  · exact (sub_or h h).2.2
theorem ent_range {x : S41} (h : ent x = true) : 0 ≤ x.f0 ∧ x.f0 ≤ 31 := by
  unfold ent at h; simp only [Bool.and_eq_true, decide_eq_true_eq] at h
  exact ⟨by omega, h.2.1⟩
/-- a fixed list -/
structure IsFixed (f : List S41) : Prop where
  right : checkB f = true
  noAuth : ∀ x ∈ f, authB x = false
  some : f ≠ []
theorem IsFixed.range {f : List S41} (h : IsFixed f) : ∀ x ∈ f, 0 ≤ x.f0 ∧ x.f0 ≤ 31 := fun x hx => ent_range ((checkB_iff.1 h.right).2.2 x hx)
theorem allows_fixed {f : List S41} (h : IsFixed f) (p : Int) (who : List S39) : allowsB f p who = (decide (0 ≤ p) && (decide (p ≤ 31) && (checkIB who && (anot p (mayB who f 0) == 0)))) := by
  unfold allowsB
  rw [h.right, decide_eq_false (fun e => h.some (List.eq_nil_of_length_eq_zero e)), show f.any authB = false from List.any_eq_false.2 fun x hx => by rw [h.noAuth x hx]; simp]
  simp
theorem allows_bits {f : List S41} (h : IsFixed f) {p : Int} (hp : 0 ≤ p ∧ p ≤ 31) (who : List S39) :
    allowsB f p who = (checkIB who && ([1, 2, 4, 8, 16].all fun b => (andd p b == 0) || allowsB f b who)) := by
  rw [allows_fixed h, decide_eq_true hp.1, decide_eq_true hp.2, Bool.true_and, Bool.true_and, sub_bits hp (may_range who f 0 h.range ⟨by omega, by omega⟩)]
  cases hc : checkIB who with
  | false => rfl
  | true =>
    simp only [Bool.true_and]
    have : ∀ b ∈ ([1, 2, 4, 8, 16] : List Int), allowsB f b who = (anot b (mayB who f 0) == 0) := by
      intro b hb
      rw [allows_fixed h, hc]
      simp only [List.mem_cons, List.not_mem_nil, or_false] at hb
      rcases hb with rfl | rfl | rfl | rfl | rfl <;> simp
    simp only [List.all_cons, List.all_nil]
    rw [this 1 (by simp), this 2 (by simp), this 4 (by simp), this 8 (by simp), this 16 (by simp)]
theorem allows_longer {f : List S41} (h : IsFixed f) {p : Int} {who : List S39} {o : S39} (ha : allowsB f p who = true) (hc : checkIB (who ++ [o]) = true) : allowsB f p (who ++ [o]) = true := by
  rw [allows_fixed h] at ha ⊢
  simp only [Bool.and_eq_true, decide_eq_true_eq, beq_iff_eq] at ha ⊢
  refine ⟨ha.1, ha.2.1, hc, ?_⟩
  refine sub_trans ⟨ha.1, ha.2.1⟩ (may_range who f 0 h.range ⟨by omega, by omega⟩) (may_range _ f 0 h.range ⟨by omega, by omega⟩) ha.2.2.2 ?_
  refine may_mono who (who ++ [o]) f 0 0 h.range (fun x _ hx => ?_) ⟨by omega, by omega⟩ ⟨by omega, by omega⟩ (by decide +kernel)
  unfold wayB at hx ⊢
  rw [Bool.or_eq_true] at hx ⊢
  rcases hx with hx | hx
  · exact .inl hx
  · exact .inr (by rw [List.any_append, hx]; rfl)
theorem allows_wider {f : List S41} (h : IsFixed f) {p : Int} {who : List S39} {m : S41} (ha : allowsB f p who = true) (hc : checkB (f ++ [m]) = true) (hm : authB m = false) : allowsB (f ++ [m]) p who = true := by
  have hw : IsFixed (f ++ [m]) := ⟨hc, fun x hx => by
    rcases List.mem_append.1 hx with hx | hx
    · exact h.noAuth x hx
    · rw [List.mem_singleton.1 hx]; exact hm, by simp⟩
  rw [allows_fixed h] at ha
  rw [allows_fixed hw]
  simp only [Bool.and_eq_true, decide_eq_true_eq, beq_iff_eq] at ha ⊢
  refine ⟨ha.1, ha.2.1, ha.2.2.1, ?_⟩
  exact sub_trans ⟨ha.1, ha.2.1⟩ (may_range who f 0 h.range ⟨by omega, by omega⟩) (may_range who _ 0 hw.range ⟨by omega, by omega⟩) ha.2.2.2
    (may_more who f m h.range (hw.range m (by simp)))
theorem allows_beyond (f : List S41) (who : List S39) : allowsB f 32 who = false ∧ allowsB f (-1) who = false := by
  unfold allowsB
  constructor <;> simp
end Go.Proofs.YtgjgafibipepeaaGreatDoor.Q
