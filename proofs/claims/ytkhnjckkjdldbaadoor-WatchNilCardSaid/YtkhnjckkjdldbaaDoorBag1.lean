import Derived.Test.YtkhnjckkjdldbaaDoorWWords
import Derived.Deep.AppendLies
import Derived.Laws.OwnMore
import Derived.ArgAppend
namespace Go.Proofs.YtkhnjckkjdldbaaDoor.Bag
open Go.RowKit Go.Proofs.YtkhnjckkjdldbaaDoorW.PrintWords Go.Deep
set_option linter.unusedVariables false
set_option linter.unusedSimpArgs false
/-! AN APPEND TO A ROW OF ONE'S OWN: IN PLACE, OR INTO A NEW BLOCK -/
/-- what an append makes of a row v of n elements: it lies in v's own block, or in a new one -/
def AppTo (W w' : World) (v : Value) (n g cap : Nat) : Prop :=
  (v = .slice (some ⟨g, 0, none⟩) n cap ∧ W.grownBy w' (some g)) ∨ (W.heap.size ≤ g ∧ W.grownBy w' none)
theorem own_lower {w : World} {base base' : Nat} {e : TypeId} {size n : Nat} {v : Value} {xs : List Value} (h : w.ownsRow base e size v n xs) (hb : base' ≤ base) : w.ownsRow base' e size v n xs := by
  refine ⟨h.1, ?_⟩
  rcases h.2 with h | ⟨g, cap, cur, h1, h2, h3⟩
  · exact .inl h
  · exact .inr ⟨g, cap, cur, h1, Nat.le_trans hb h2, h3⟩
theorem wpList_app {P : Program} {ops : Array Oper} {rest : List Oper} {o : Oper} {a : Act} {Q : Exit → Act → World → Prop} {W : World}
    (hgd : o.guard = none) (s x : Operand) (t : TypeId) (hop : o.op = Op.call { callee := Callee.builtin Builtin.append, args := #[s, x], argTypes := #[t, t] })
    (e : TypeId) (i : TypeInfo) (z : Value) (size bytes : Nat) (h1 : P.underlying t = some (.slice e)) (h2 : P.info? e = some i) (h3 : i.zero = some z) (h4 : i.size = size) (h5 : i.bytes = bytes) (h6 : z.cells.size = size) (h7 : 0 < size)
    (base : Nat) (v : Value) (n : Nat) (xs : List Value) (hs : a.eval s = v) (hown : W.ownsRow base e size v n xs)
    (ad : Addr) (c : Nat) (news : List Value) (hx : a.eval x = .slice (some ad) 1 c) (hn : news.length = size) (hc : ∀ j u, news[j]? = some u → W.cell? (ad.add j) = some u) (h1c : ∀ u ∈ news, u.oneCell' = true)
    (b1 : n + 1 ≤ maxLen) (b2 : (n + 1) * bytes ≤ 140737488355328) (hbase : base ≤ W.heap.size)
    (hK : ∀ g cap w', w'.ownsRow base e size (.slice (some ⟨g, 0, none⟩) (n + 1) cap) (n + 1) (xs ++ news) → AppTo W w' v n g cap → wpList P ops Q rest (a.put o.dst (.slice (some ⟨g, 0, none⟩) (n + 1) cap)) w') :
    wpList P ops Q (o :: rest) a W := by
  have hn1 : news.length = 1 * size := by omega
  rcases hown.2 with ⟨rfl, rfl⟩ | ⟨g, cap, cur, rfl, hb, hg, hnc, hcm, hsz, htk⟩
  · obtain rfl : xs = [] := List.eq_nil_of_length_eq_zero (by have := hown.1; simpa using this)
    refine wpList_append_grows W hgd s x t hop e i z size bytes h1 h2 h3 h4 h5 h6 h7 none 0 0 [] hs (fun _ => ⟨rfl, rfl⟩) (by simp) (fun b hb => by cases hb) ad 1 c news hx hn1 hc h1c (by omega) b1 b2 ?_
    intro v' w' hown' hgr
    obtain ⟨g, cap, rfl, hbg, _⟩ := hown'.form (by omega)
    exact hK g cap w' (own_lower hown' hbase) (.inr ⟨hbg, hgr⟩)
  · by_cases hroom : n + 1 ≤ cap
    · obtain ⟨w', hrun, hown', hgr⟩ := run_append_fits (P := P) W base t o.type e i size h1 h2 h4 g n cap xs hown ad 1 c news hn1 hc h1c hroom
      refine wpList_plain hgd fun K hK' => ?_
      unfold Oper.wp
      simp [execOp, hop, resolve, invoke, builtin, hs, hx, hrun, Result.andThen]
      exact hK' _ _ (hK g cap w' hown' (.inl ⟨rfl, hgr⟩))
    · refine wpList_append_grows W hgd s x t hop e i z size bytes h1 h2 h3 h4 h5 h6 h7 (some ⟨g, 0, none⟩) n cap xs hs (fun h => by cases h) hown.1 (fun b hb => by cases hb; exact hown.cells (by simp [Value.ownBlock])) ad 1 c news hx hn1 hc h1c (by omega) b1 b2 ?_
      intro v' w' hown' hgr
      obtain ⟨g', cap', rfl, hbg, _⟩ := hown'.form (by omega)
      exact hK g' cap' w' (own_lower hown' hbase) (.inr ⟨hbg, hgr⟩)
/-! ITEMS -/
structure Item (α : Type) where
  v : Value
  xs : List α
  m : Value
  ys : List α
section
variable {α : Type} (enc : α → List Value) (size base : Nat) (e : TypeId)
def Row (W : World) (v : Value) (xs : List α) : Prop := W.ownsRow base e size v xs.length (xs.flatMap enc)
structure Good (W : World) (it : Item α) : Prop where
  rv : Row enc size base e W it.v it.xs
  rm : Row enc size base e W it.m (it.xs ++ it.ys)
  tie : ∀ b, it.v.ownBlock = some b → it.m.ownBlock = some b → ∃ cap, it.v = .slice (some ⟨b, 0, none⟩) it.xs.length cap ∧ it.m = .slice (some ⟨b, 0, none⟩) (it.xs ++ it.ys).length cap
/-- a block is an item's -/
def Item.has (it : Item α) (b : Nat) : Prop := it.v.ownBlock = some b ∨ it.m.ownBlock = some b
structure BagI (W : World) (its : List (Item α)) : Prop where
  ok : ∀ j (hj : j < its.length), Good enc size base e W its[j]
  apart : ∀ j k (hj : j < its.length) (hk : k < its.length), j ≠ k → ∀ b, its[j].has b → ¬ its[k].has b
end
section
variable {α : Type} {enc : α → List Value} {size base : Nat} {e : TypeId}
theorem Row.lt {W : World} {v : Value} {xs : List α} (h : Row enc size base e W v xs) {b : Nat} (hb : v.ownBlock = some b) : base ≤ b ∧ b < W.heap.size := World.ownsRow.lt h b hb
theorem Row.keep {W w' : World} {v : Value} {xs : List α} (h : Row enc size base e W v xs) {r : Option Nat} (hg : W.grownBy w' r) (hne : ∀ b, v.ownBlock = some b → r ≠ some b) : Row enc size base e w' v xs := by
  refine World.ownsRow.kept h hg ?_
  cases hb : v.ownBlock with
  | none => exact .inl rfl
  | some b => exact .inr fun h2 => hne b hb h2.symm
theorem Good.lt {W : World} {it : Item α} (h : Good enc size base e W it) {b : Nat} (hb : it.has b) : base ≤ b ∧ b < W.heap.size := by
  rcases hb with hb | hb
  · exact h.rv.lt hb
  · exact h.rm.lt hb
theorem Good.keep {W w' : World} {it : Item α} (h : Good enc size base e W it) {r : Option Nat} (hg : W.grownBy w' r) (hne : ∀ b, it.has b → r ≠ some b) : Good enc size base e w' it :=
  ⟨h.rv.keep hg fun b hb => hne b (.inl hb), h.rm.keep hg fun b hb => hne b (.inr hb), h.tie⟩
theorem Row.of_below {W w' : World} {v : Value} {xs : List α} (h : Row enc size base e W v xs) (hb : Below W.heap.size W w') : Row enc size base e w' v xs :=
  own_move h fun k hk => hb.block k (World.ownsRow.lt h k hk).2
theorem BagI.below {W w' : World} {its : List (Item α)} (h : BagI enc size base e W its) (hb : Below W.heap.size W w') : BagI enc size base e w' its :=
  ⟨fun j hj => ⟨(h.ok j hj).rv.of_below hb, (h.ok j hj).rm.of_below hb, (h.ok j hj).tie⟩, h.apart⟩
/-- the head of a row -/
theorem row_head {W : World} {g n0 n cap : Nat} {xs ys : List α} (henc : ∀ x, (enc x).length = size) (h : W.ownsRow base e size (.slice (some ⟨g, 0, none⟩) n cap) n ((xs ++ ys).flatMap enc)) (hn : (xs ++ ys).length = n) :
    Row enc size base e W (.slice (some ⟨g, 0, none⟩) xs.length cap) xs := by
  have hl : ∀ l : List α, (l.flatMap enc).length = l.length * size := fun l => by
    induction l with
    | nil => simp
    | cons x l ih => rw [List.flatMap_cons, List.length_append, ih, henc, List.length_cons, Nat.add_mul]; omega
  refine ⟨hl xs, ?_⟩
  rcases h.2 with ⟨h1, _⟩ | ⟨g', cap', cur, h1, h2, h3, h4, h5, h6, h7⟩
  · cases h1
  · simp only [Value.slice.injEq, Option.some.injEq, Addr.mk.injEq, and_true, true_and] at h1
    obtain ⟨rfl, rfl⟩ := h1
    have hle : xs.length ≤ n := by rw [← hn, List.length_append]; omega
    refine .inr ⟨g, cap, cur, rfl, h2, h3, Nat.le_trans hle h4, h5, h6, ?_⟩
    have h8 := congrArg (List.take (xs.length * size)) h7
    rw [List.take_take, Nat.min_eq_left (Nat.mul_le_mul_right _ hle), List.flatMap_append, List.take_left' (hl xs)] at h8
    exact h8
/-- an append to what is made of an item -/
theorem BagI.app {W w' : World} {its : List (Item α)} (henc : ∀ x, (enc x).length = size) (h : BagI enc size base e W its) {i : Nat} (hi : i < its.length) (x : α) {g cap : Nat}
    (hown : w'.ownsRow base e size (.slice (some ⟨g, 0, none⟩) ((its[i].xs ++ its[i].ys).length + 1) cap) ((its[i].xs ++ its[i].ys).length + 1) ((its[i].xs ++ its[i].ys).flatMap enc ++ enc x))
    (hA : AppTo W w' its[i].m (its[i].xs ++ its[i].ys).length g cap) :
    BagI enc size base e w' (its.set i ⟨its[i].v, its[i].xs, .slice (some ⟨g, 0, none⟩) ((its[i].xs ++ its[i].ys).length + 1) cap, its[i].ys ++ [x]⟩) := by
  have hG := h.ok i hi
  have hnew : w'.ownsRow base e size (.slice (some ⟨g, 0, none⟩) ((its[i].xs ++ its[i].ys).length + 1) cap) ((its[i].xs ++ its[i].ys).length + 1) ((its[i].xs ++ (its[i].ys ++ [x])).flatMap enc) := by
    have e1 : (its[i].xs ++ (its[i].ys ++ [x])).flatMap enc = (its[i].xs ++ its[i].ys).flatMap enc ++ enc x := by
      rw [← List.append_assoc, List.flatMap_append]; simp
    rw [e1]; exact hown
  have hlen : (its[i].xs ++ (its[i].ys ++ [x])).length = (its[i].xs ++ its[i].ys).length + 1 := by simp; omega
  -- the row that is written, if any, is this item's alone
  obtain ⟨r, hgr, hr⟩ : ∃ r, W.grownBy w' r ∧ ∀ b, r = some b → its[i].has b := by
    rcases hA with ⟨hm, hg⟩ | ⟨_, hg⟩
    · exact ⟨some g, hg, fun b hb => by cases hb; exact .inr (by rw [hm]; rfl)⟩
    · exact ⟨none, hg, fun b hb => by cases hb⟩
  have hother : ∀ k (hk : k < its.length), k ≠ i → Good enc size base e w' its[k] := fun k hk hne =>
    (h.ok k hk).keep hgr fun b hb hrb => h.apart i k hi hk (fun e => hne e.symm) b (hr b hrb) hb
  have hv : Row enc size base e w' its[i].v its[i].xs := by
    rcases hA with ⟨hm, hg⟩ | ⟨_, hg⟩
    · cases hb : its[i].v.ownBlock with
      | none => exact hG.rv.keep hg fun b h2 => by rw [hb] at h2; cases h2
      | some b =>
        by_cases hbg : b = g
        · subst hbg
          obtain ⟨cap2, h1, h2⟩ := hG.tie b hb (by rw [hm]; rfl)
          rw [hm] at h2
          simp only [Value.slice.injEq, and_true, true_and] at h2
          rw [h1, ← h2]
          exact row_head (n0 := 0) henc hnew hlen
        · exact hG.rv.keep hg fun b2 h2 he => by rw [hb] at h2; cases h2; exact hbg (Option.some.inj he).symm
    · exact hG.rv.keep hg fun b h2 he => by cases he
  have hgood : Good enc size base e w' ⟨its[i].v, its[i].xs, .slice (some ⟨g, 0, none⟩) ((its[i].xs ++ its[i].ys).length + 1) cap, its[i].ys ++ [x]⟩ := by
    refine ⟨hv, ?_, fun b h1 h2 => ?_⟩
    · show w'.ownsRow base e size _ (its[i].xs ++ (its[i].ys ++ [x])).length _
      rw [hlen]; exact hnew
    · have hbg : g = b := by simpa [Value.ownBlock] using h2
      subst hbg
      rcases hA with ⟨hm, hg⟩ | ⟨hge, hg⟩
      · obtain ⟨cap2, h3, h4⟩ := hG.tie g h1 (by rw [hm]; rfl)
        rw [hm] at h4
        simp only [Value.slice.injEq, and_true, true_and] at h4
        subst h4
        exact ⟨cap, h3, by rw [hlen]⟩
      · have := (hG.rv.lt h1).2; omega
  have hblk : ∀ b, (Item.has ⟨its[i].v, its[i].xs, .slice (some ⟨g, 0, none⟩) ((its[i].xs ++ its[i].ys).length + 1) cap, its[i].ys ++ [x]⟩ b) → its[i].has b ∨ W.heap.size ≤ b := fun b hb => by
    rcases hb with hb | hb
    · exact .inl (.inl hb)
    · have hbg : g = b := by simpa [Value.ownBlock] using hb
      subst hbg
      rcases hA with ⟨hm, _⟩ | ⟨hge, _⟩
      · exact .inl (.inr (by rw [hm]; rfl))
      · exact .inr hge
  refine ⟨fun j hj => ?_, fun j k hj hk hne b hjb hkb => ?_⟩
  · rw [List.getElem_set]
    split
    · exact hgood
    · rename_i hji
      exact hother j (by simpa using hj) (fun e => hji e.symm)
  · rw [List.getElem_set] at hjb hkb
    have hj' : j < its.length := by simpa using hj
    have hk' : k < its.length := by simpa using hk
    split at hjb
    · rename_i hij
      rw [if_neg (fun e => hne (hij.symm.trans e))] at hkb
      rcases hblk b hjb with h1 | h1
      · exact h.apart i k hi hk' (fun e => hne (hij.symm.trans e)) b h1 hkb
      · have := ((h.ok k hk').lt hkb).2; omega
    · split at hkb
      · rename_i hik
        rcases hblk b hkb with h1 | h1
        · exact h.apart j i hj' hi (fun e => hne (e.trans hik)) b hjb h1
        · have := ((h.ok j hj').lt hjb).2; omega
      · exact h.apart j k hj' hk' hne b hjb hkb
end
end Go.Proofs.YtkhnjckkjdldbaaDoor.Bag
