import Derived.Test.YtkhnjckkjdldbaaGreatDoorWWords
import Derived.Deep.AppendLies
import Derived.Laws.OwnMore
import Derived.ArgAppend
namespace Go.Proofs.YtkhnjckkjdldbaaGreatDoor.Bag
open Go.RowKit Go.Proofs.YtkhnjckkjdldbaaGreatDoorW.PrintWords Go.Deep
set_option linter.unusedVariables false
set_option linter.unusedSimpArgs false
/-! AN APPEND TO A ROW OF ONE'S OWN: IN PLACE, OR INTO A NEW BLOCK -/
/-- what an append makes of a row v of n elements: it lies in v's own block, or in a new one -/
def AppTo (W w' : World) (v : Value) (n g cap : Nat) : Prop :=
  (v = .slice (some ⟨g, 0, none⟩) n cap ∧ W.grownBy w' (some g)) ∨ (W.heap.size ≤ g ∧ W.grownBy w' none)
theorem own_lower {w : World} {base base' : Nat} {e : TypeId} {size n : Nat} {v : Value} {xs : List Value} (h : w.ownsRow base e size v n xs) (hb : base' ≤ base) : w.ownsRow base' e size v n xs := by
  refine ⟨h.1, ?_⟩
  rcases h.2 with h | ⟨g, cap, cur, h1, h2, h3⟩
  · exact .inl h
  · exact .inr ⟨g, cap, cur, h1, Nat.le_trans hb h2, h3⟩
theorem wpList_app {P : Program} {ops : Array Oper} {rest : List Oper} {o : Oper} {a : Act} {Q : Exit → Act → World → Prop} {W : World}
    (hgd : o.guard = none) (s x : Operand) (t : TypeId) (hop : o.op = Op.call { callee := Callee.builtin Builtin.append, args := #[s, x], argTypes := #[t, t] })
    (e : TypeId) (i : TypeInfo) (z : Value) (size bytes : Nat) (h1 : P.underlying t = some (.slice e)) (h2 : P.info? e = some i) (h3 : i.zero = some z) (h4 : i.size = size) (h5 : i.bytes = bytes) (h6 : z.cells.size = size) (h7 : 0 < size)
    (base : Nat) (v : Value) (n : Nat) (xs : List Value) (hs : a.eval s = v) (hown : W.ownsRow base e size v n xs)
    (ad : Addr) (c : Nat) (news : List Value) (hx : a.eval x = .slice (some ad) 1 c) (hn : news.length = size) (hc : ∀ j u, news[j]? = some u → W.cell? (ad.add j) = some u) (h1c : ∀ u ∈ news, u.oneCell' = true)
    (b1 : n + 1 ≤ maxLen) (b2 : (n + 1) * bytes ≤ 140737488355328) (hbase : base ≤ W.heap.size)
    (hK : ∀ g cap w', w'.ownsRow base e size (.slice (some ⟨g, 0, none⟩) (n + 1) cap) (n + 1) (xs ++ news) → AppTo W w' v n g cap → wpList P ops Q rest (a.put o.dst (.slice (some ⟨g, 0, none⟩) (n + 1) cap)) w') :
    wpList P ops Q (o :: rest) a W := by
  have hn1 : news.length = 1 * size := by omega
  rcases hown.2 with ⟨rfl, rfl⟩ | ⟨g, cap, cur, rfl, hb, hg, hnc, hcm, hsz, htk⟩
  · obtain rfl : xs = [] := List.eq_nil_of_length_eq_zero (by have := hown.1; simpa using this)
    refine wpList_append_grows W hgd s x t hop e i z size bytes h1 h2 h3 h4 h5 h6 h7 none 0 0 [] hs (fun _ => ⟨rfl, rfl⟩) (by simp) (fun b hb => by cases hb) ad 1 c news hx hn1 hc h1c (by omega) b1 b2 ?_
    intro v' w' hown' hgr
    obtain ⟨g, cap, rfl, hbg, _⟩ := hown'.form (by omega)
    exact hK g cap w' (own_lower hown' hbase) (.inr ⟨hbg, hgr⟩)
  · by_cases hroom : n + 1 ≤ cap
    · obtain ⟨w', hrun, hown', hgr⟩ := run_append_fits (P := P) W base t o.type e i size h1 h2 h4 g n cap xs hown ad 1 c news hn1 hc h1c hroom
      refine wpList_plain hgd fun K hK' => ?_
      unfold Oper.wp
      simp [execOp, hop, resolve, invoke, builtin, hs, hx, hrun, Result.andThen]
      exact hK' _ _ (hK g cap w' hown' (.inl ⟨rfl, hgr⟩))
    · refine wpList_append_grows W hgd s x t hop e i z size bytes h1 h2 h3 h4 h5 h6 h7 (some ⟨g, 0, none⟩) n cap xs hs (fun h => by cases h) hown.1 (fun b hb => by cases hb; exact hown.cells (by simp [Value.ownBlock])) ad 1 c news hx hn1 hc h1c (by omega) b1 b2 ?_
      intro v' w' hown' hgr
      obtain ⟨g', cap', rfl, hbg, _⟩ := hown'.form (by omega)
      exact hK g' cap' w' (own_lower hown' hbase) (.inr ⟨hbg, hgr⟩)
/-! ITEMS -/
structure Item (α : Type) where
  v : Value
  xs : List α
  m : Value
  ys : List α
section
variable {α : Type} (enc : α → List Value) (size base : Nat) (e : TypeId)
def Row (W : World) (v : Value) (xs : List α) : Prop := W.ownsRow base e size v xs.length (xs.flatMap enc)
structure Good (W : World) (it : Item α) : Prop where
  rv : Row enc size base e W it.v it.xs
  rm : Row enc size base e W it.m (it.xs ++ it.ys)
  tie : ∀ b, it.v.ownBlock = some b → it.m.ownBlock = some b → ∃ cap, it.v = .slice (some ⟨b, 0, none⟩) it.xs.length cap ∧ it.m = .slice (some ⟨b, 0, none⟩) (it.xs ++ it.ys).length cap
/-- a block is an item's -/
def Item.has (it : Item α) (b : Nat) : Prop := it.v.ownBlock = some b ∨ it.m.ownBlock = some b
structure BagI (W : World) (its : List (Item α)) : Prop where
  ok : ∀ j (hj : j < its.length), Good enc size base e W its[j]
  apart : ∀ j k (hj : j < its.length) (hk : k < its.length), j ≠ k → ∀ b, its[j].has b → ¬ its[k].has b
end
section
variable {α : Type} {enc : α → List Value} {size base : Nat} {e : TypeId}
theorem Row.lt {W : World} {v : Value} {xs : List α} (h : Row enc size base e W v xs) {b : Nat} (hb : v.ownBlock = some b) : base ≤ b ∧ b < W.heap.size := World.ownsRow.lt h b hb
theorem Row.keep {W w' : World} {v : Value} {xs : List α} (h : Row enc size base e W v xs) {r : Option Nat} (hg : W.grownBy w' r) (hne : ∀ b, v.ownBlock = some b → r ≠ some b) : Row enc size base e w' v xs := by
  refine World.ownsRow.kept h hg ?_
  cases hb : v.ownBlock with
  | none => exact .inl rfl
  | some b => exact .inr fun h2 => hne b hb h2.symm
theorem Good.lt {W : World} {it : Item α} (h : Good enc size base e W it) {b : Nat} (hb : it.has b) : base ≤ b ∧ b < W.heap.size := by
  rcases hb with hb | hb
  · exact h.rv.lt hb
  · exact h.rm.lt hb
theorem Good.keep {W w' : World} {it : Item α} (h : Good enc size base e W it) {r : Option Nat} (hg : W.grownBy w' r) (hne : ∀ b, it.has b → r ≠ some b) : Good enc size base e w' it :=
  ⟨h.rv.keep hg fun b hb => hne b (.inl hb), h.rm.keep hg fun b hb => hne b (.inr hb), h.tie⟩
theorem Row.of_below {W w' : World} {v : Value} {xs : List α} (h : Row enc size base e W v xs) (hb : Below W.heap.size W w') : Row enc size base e w' v xs :=
  own_move h fun k hk => hb.block k (World.ownsRow.lt h k hk).2
theorem BagI.below {W w' : World} {its : List (Item α)} (h : BagI enc size base e W its) (hb : Below W.heap.size W w') : BagI enc size base e w' its :=
  ⟨fun j hj => ⟨(h.ok j hj).rv.of_below hb, (h.ok j hj).rm.of_below hb, (h.ok j hj).tie⟩, h.apart⟩
/-- the head of a row -/
theorem row_head {W : World} {g n0 n cap : Nat} {xs ys : List α} (henc : ∀ x, (enc x).length = size) (h : W.ownsRow base e size (.slice (some ⟨g, 0, none⟩) n cap) n ((xs ++ ys).flatMap enc)) (hn : (xs ++ ys).length = n) :
    Row enc size base e W (.slice (some ⟨g, 0, none⟩) xs.length cap) xs := by
  have hl : ∀ l : List α, (l.flatMap enc).length = l.length * size := fun l => by
    induction l with
    | nil => simp
    | cons x l ih => rw [List.flatMap_cons, List.length_append, ih, henc, List.length_cons, Nat.add_mul]; omega
  refine ⟨hl xs, ?_⟩
  rcases h.2 with ⟨h1, _⟩ | ⟨g', cap', cur, h1, h2, h3, h4, h5, h6, h7⟩
  · cases h1
  · simp only [Value.slice.injEq, Option.some.injEq, Addr.mk.injEq, and_true, true_and] at h1
    obtain ⟨rfl, rfl⟩ := h1
    have hle : xs.length ≤ n := by rw [← hn, List.length_append]; omega
    refine .inr ⟨g, cap, cur, rfl, h2, h3, Nat.le_trans hle h4, h5, h6, ?_⟩
    have h8 := congrArg (List.take (xs.length * size)) h7
    rw [List.take_take, Nat.min_eq_left (Nat.mul_le_mul_right _ hle), List.flatMap_append, List.take_left' (hl xs)] at h8
    exact h8
/-- an append to what is made of an item -/
theorem BagI.app {W w' : World} {its : List (Item α)} (henc : ∀ x, (enc x).length = size) (h : BagI enc size base e W its) {i : Nat} (hi : i < its.length) (x : α) {g cap : Nat}
    (hown : w'.ownsRow base e size (.slice (some ⟨g, 0, none⟩) ((its[i].xs ++ its[i].ys).length + 1) cap) ((its[i].xs ++ its[i].ys).length + 1) ((its[i].xs ++ its[i].ys).flatMap enc ++ enc x))
    (hA : AppTo W w' its[i].m (its[i].xs ++ its[i].ys).length g cap) :
    BagI enc size base e w' (its.set i ⟨its[i].v, its[i].xs, .slice (some ⟨g, 0, none⟩) ((its[i].xs ++ its[i].ys).length + 1) cap, its[i].ys ++ [x]⟩) := by
  have hG := h.ok i hi
  have hnew : w'.ownsRow base e size (.slice (some ⟨g, 0, none⟩) ((its[i].xs ++ its[i].ys).length + 1) cap) ((its[i].xs ++ its[i].ys).length + 1) ((its[i].xs ++ (its[i].ys ++ [x])).flatMap enc) := by
    have e1 : (its[i].xs ++ (its[i].ys ++ [x])).flatMap enc = (its[i].xs ++ its[i].ys).flatMap enc ++ enc x := by
      rw [← List.append_assoc, List.flatMap_append]; simp
    rw [e1]; exact hown
  have hlen : (its[i].xs ++ (its[i].ys ++ [x])).length = (its[i].xs ++ its[i].ys).length + 1 := by simp; omega
  -- the row that is written, if any, is this item's alone
  obtain ⟨r, hgr, hr⟩ : ∃ r, W.grownBy w' r ∧ ∀ b, r = some b → its[i].has b := by
    rcases hA with ⟨hm, hg⟩ | ⟨_, hg⟩
    · exact ⟨some g, hg, fun b hb => by cases hb; exact .inr (by rw [hm]; rfl)⟩
    · exact ⟨none, hg, fun b hb => by cases hb⟩
  have hother : ∀ k (hk : k < its.length), k ≠ i → Good enc size base e w' its[k] := fun k hk hne =>
    (h.ok k hk).keep hgr fun b hb hrb => h.apart i k hi hk (fun e => hne e.symm) b (hr b hrb) hb
  have hv : Row enc size base e w' its[i].v its[i].xs := by
    rcases hA with ⟨hm, hg⟩ | ⟨_, hg⟩
    · cases hb : its[i].v.ownBlock with
      | none => exact hG.rv.keep hg fun b h2 => by rw [hb] at h2; cases h2
      | some b =>
        by_cases hbg : b = g
        · subst hbg
          obtain ⟨cap2, h1, h2⟩ := hG.tie b hb (by rw [hm]; rfl)
          rw [hm] at h2
          simp only [Value.slice.injEq, and_true, true_and] at h2
          rw [h1, ← h2]
          exact row_head (n0 := 0) henc hnew hlen
        · exact hG.rv.keep hg fun b2 h2 he => by rw [hb] at h2; cases h2; exact hbg (Option.some.inj he).symm
    · exact hG.rv.keep hg fun b h2 he => by cases he
  have hgood : Good enc size base e w' ⟨its[i].v, its[i].xs, .slice (some ⟨g, 0, none⟩) ((its[i].xs ++ its[i].ys).length + 1) cap, its[i].ys ++ [x]⟩ := by
    refine ⟨hv, ?_, fun b h1 h2 => ?_⟩
    · show w'.ownsRow base e size _ (its[i].xs ++ (its[i].ys ++ [x])).length _
      rw [hlen]; exact hnew
    · have hbg : g = b := by simpa [Value.ownBlock] using h2
      subst hbg
      rcases hA with ⟨hm, hg⟩ | ⟨hge, hg⟩
      · obtain ⟨cap2, h3, h4⟩ := hG.tie g h1 (by rw [hm]; rfl)
        rw [hm] at h4
        simp only [Value.slice.injEq, and_true, true_and] at h4
        subst h4
        exact ⟨cap, h3, by rw [hlen]⟩
      · have := (hG.rv.lt h1).2; omega
  have hblk : ∀ b, (Item.has ⟨its[i].v, its[i].xs, .slice (some ⟨g, 0, none⟩) ((its[i].xs ++ its[i].ys).length + 1) cap, its[i].ys ++ [x]⟩ b) → its[i].has b ∨ W.heap.size ≤ b := fun b hb => by
    rcases hb with hb | hb
    · exact .inl (.inl hb)
    · have hbg : g = b := by simpa [Value.ownBlock] using hb
      subst hbg
      rcases hA with ⟨hm, _⟩ | ⟨hge, _⟩
      · exact .inl (.inr (by rw [hm]; rfl))
      · exact .inr hge
  refine ⟨fun j hj => ?_, fun j k hj hk hne b hjb hkb => ?_⟩
  · rw [List.getElem_set]
    split
    · exact hgood
    · rename_i hji
      exact hother j (by simpa using hj) (fun e => hji e.symm)
  · rw [List.getElem_set] at hjb hkb
    have hj' : j < its.length := by simpa using hj
    have hk' : k < its.length := by simpa using hk
    split at hjb
    · rename_i hij
      rw [if_neg (fun e => hne (hij.symm.trans e))] at hkb
      rcases hblk b hjb with h1 | h1
      · exact h.apart i k hi hk' (fun e => hne (hij.symm.trans e)) b h1 hkb
      · have := ((h.ok k hk').lt hkb).2; omega
    · split at hkb
      · rename_i hik
        rcases hblk b hkb with h1 | h1
        · exact h.apart j i hj' hi (fun e => hne (e.trans hik)) b hjb h1
        · have := ((h.ok j hj').lt hjb).2; omega
      · exact h.apart j k hj' hk' hne b hjb hkb
end
end Go.Proofs.YtkhnjckkjdldbaaGreatDoor.Bag
namespace Go.Proofs.YtkhnjckkjdldbaaGreatDoor.Bag
open Go.RowKit Go.Proofs.YtkhnjckkjdldbaaGreatDoorW.PrintWords Go.Deep
set_option linter.unusedVariables false
set_option linter.unusedSimpArgs false
/-! ROWS: CELLS; THE PRINT'S WORDS -/
section
variable {α : Type} {enc : α → List Value} {size base : Nat} {e : TypeId}
theorem flat_len (henc : ∀ x, (enc x).length = size) (l : List α) : (l.flatMap enc).length = l.length * size := by
  induction l with
  | nil => simp
  | cons x l ih => rw [List.flatMap_cons, List.length_append, ih, henc, List.length_cons, Nat.add_mul]; omega
theorem flat_get (henc : ∀ x, (enc x).length = size) : ∀ (xs : List α) (k : Nat) (hk : k < xs.length) (j : Nat), j < size → (xs.flatMap enc)[k * size + j]? = (enc xs[k])[j]?
  | x :: xs, 0, hk, j, hj => by
    rw [List.flatMap_cons, Nat.zero_mul, Nat.zero_add, List.getElem?_append_left (by rw [henc]; exact hj)]; rfl
  | x :: xs, k + 1, hk, j, hj => by
    rw [List.flatMap_cons, List.getElem?_append_right (by rw [henc, Nat.add_mul]; omega), henc, show (k + 1) * size + j - size = k * size + j by rw [Nat.add_mul]; omega, flat_get henc xs k (by simpa using hk) j hj]
    rfl
theorem flat_drop (henc : ∀ x, (enc x).length = size) : ∀ (xs : List α) (k : Nat) (x : α), xs[k]? = some x → ((xs.flatMap enc).drop (k * size)).take size = enc x
  | y :: xs, 0, x, h => by
    obtain rfl : y = x := by simpa using h
    rw [List.flatMap_cons, Nat.zero_mul, List.drop_zero, List.take_left' (henc _)]
  | y :: xs, k + 1, x, h => by
    rw [List.flatMap_cons, show (k + 1) * size = size + k * size by rw [Nat.add_mul]; omega, ← List.drop_drop, List.drop_left' (henc _)]
    exact flat_drop henc xs k x (by simpa using h)
/-- a cell of a row -/
theorem Row.cell {W : World} {g cap : Nat} {xs : List α} (henc : ∀ x, (enc x).length = size) (h : Row enc size base e W (.slice (some ⟨g, 0, none⟩) xs.length cap) xs) {k : Nat} (hk : k < xs.length) {j : Nat} {u : Value} (hu : (enc xs[k])[j]? = some u) :
    W.cell? ⟨g, k * size + j, none⟩ = some u := by
  have hj : j < size := by have := (List.getElem?_eq_some_iff.1 hu).1; rwa [henc] at this
  have hlt : k * size + j < xs.length * size := by
    have : (k + 1) * size ≤ xs.length * size := Nat.mul_le_mul_right _ hk
    rw [Nat.add_mul] at this; omega
  rw [World.ownsRow.cellAt h _ hlt, flat_get henc xs k hk j hj, hu]
theorem Row.shape {W : World} {v : Value} {xs : List α} (h : Row enc size base e W v xs) : (v = .slice none 0 0 ∧ xs = []) ∨ ∃ g cap, v = .slice (some ⟨g, 0, none⟩) xs.length cap ∧ xs.length ≤ cap ∧ base ≤ g ∧ ∃ cs, W.heap[g]? = some (.cells cs e (0, 0)) := by
  rcases h.2 with ⟨h1, h2⟩ | ⟨g, cap, cur, h1, h2, h3, h4, _⟩
  · exact .inl ⟨h1, List.eq_nil_of_length_eq_zero h2⟩
  · exact .inr ⟨g, cap, h1, h4, h2, cur, h3⟩
theorem inner_eq (henc : ∀ x, (enc x).length = size) {M : α → List Value → Prop} (hM : ∀ x cs, M x cs → cs = enc x) : ∀ (xs : List α) (inner : List Value), Reps M size xs inner → inner = xs.flatMap enc
  | [], inner, h => List.eq_nil_of_length_eq_zero (by have := h.1; simpa using this)
  | x :: xs, inner, h => by
    have h1 := hM _ _ (h.2 0 x rfl)
    rw [Nat.zero_mul, List.drop_zero] at h1
    have h2 := inner_eq henc hM xs (inner.drop size) ⟨by rw [List.length_drop, h.1, List.length_cons, Nat.add_mul]; omega, fun j p hp => by
      have := h.2 (j + 1) p (by simpa using hp)
      rw [List.drop_drop, show size + j * size = (j + 1) * size by rw [Nat.add_mul]; omega]
      exact this⟩
    rw [List.flatMap_cons, ← h2, ← h1, List.take_append_drop]
theorem row_of_R {d : Kd α} {W : World} {ok : Nat → Prop} {v : Value} {xs : List α} (hsz : d.sz = size) (henc : ∀ x, (enc x).length = size) (hM : ∀ w b o x cs, d.M w b o x cs → cs = enc x) (h : d.R e W base ok v xs) : Row enc size base e W v xs := by
  subst hsz
  obtain ⟨_, inner, ho, hr⟩ := h
  rw [inner_eq henc (fun x cs hx => hM _ _ _ _ _ hx) xs inner hr] at ho
  exact ho
theorem R_of_row {d : Kd α} {W : World} {v : Value} {xs : List α} (hsz : d.sz = size) (henc : ∀ x, (enc x).length = size) (hM : ∀ w b o x, d.M w b o x (enc x)) (h : Row enc size base e W v xs) : d.R e W base (fun _ => True) v xs := by
  subst hsz
  exact ⟨fun _ _ => trivial, _, h, flat_len henc xs, fun j p hp => by rw [flat_drop henc xs j p hp]; exact hM _ _ _ _⟩
/-- an item at its beginning -/
def start (v : Value) (xs : List α) : Item α := ⟨v, xs, v, []⟩
theorem start_good {W : World} {v : Value} {xs : List α} (h : Row enc size base e W v xs) : Good enc size base e W (start v xs) := by
  refine ⟨h, ?_, fun b h1 h2 => ?_⟩
  · show Row enc size base e W v (xs ++ [])
    rw [List.append_nil]; exact h
  · rcases h.shape with ⟨h3, _⟩ | ⟨g, cap, h3, _⟩
    · have h1' : v.ownBlock = some b := h1
      rw [h3] at h1'; cases h1'
    · have h1' : v.ownBlock = some b := h1
      rw [h3] at h1'
      have : g = b := by simpa [Value.ownBlock] using h1'
      subst this
      exact ⟨cap, h3, by show v = .slice _ (xs ++ []).length _; rw [List.append_nil]; exact h3⟩
theorem start_has {v : Value} {xs : List α} {b : Nat} : (start v xs).has b ↔ v.ownBlock = some b := by
  unfold Item.has start
  exact ⟨fun h => h.elim id id, .inl⟩
/-- a store into an item at its beginning -/
theorem BagI.put {W w' : World} {its : List (Item α)} (h : BagI enc size base e W its) {i : Nat} (hi : i < its.length) {v : Value} {xs xs' : List α} (hst : its[i] = start v xs) {g : Nat} (hv : v.ownBlock = some g)
    (hrow : Row enc size base e w' v xs') (hg : W.grownBy w' (some g)) : BagI enc size base e w' (its.set i (start v xs')) := by
  have hasi : ∀ b, its[i].has b ↔ v.ownBlock = some b := fun b => by rw [hst]; exact start_has
  refine ⟨fun j hj => ?_, fun j k hj hk hne b hjb hkb => ?_⟩
  · rw [List.getElem_set]
    split
    · exact start_good hrow
    · rename_i hji
      have hj' : j < its.length := by simpa using hj
      exact (h.ok j hj').keep hg fun b hb hrb => h.apart i j hi hj' hji b ((hasi b).2 (by rw [hv]; exact hrb)) hb
  · have hj' : j < its.length := by simpa using hj
    have hk' : k < its.length := by simpa using hk
    rw [List.getElem_set] at hjb hkb
    split at hjb
    · rename_i hij
      rw [if_neg (fun e => hne (hij.symm.trans e))] at hkb
      exact h.apart i k hi hk' (fun e => hne (hij.symm.trans e)) b ((hasi b).2 (start_has.1 hjb)) hkb
    · split at hkb
      · rename_i hik
        exact h.apart j i hj' hi (fun e => hne (e.trans hik)) b hjb ((hasi b).2 (start_has.1 hkb))
      · exact h.apart j k hj' hk' hne b hjb hkb
/-- back to the beginning: what grown has made is forgotten -/
theorem BagI.back {W : World} {its : List (Item α)} (h : BagI enc size base e W its) : BagI enc size base e W (its.map fun it => start it.v it.xs) := by
  refine ⟨fun j hj => ?_, fun j k hj hk hne b hjb hkb => ?_⟩
  · simp only [List.getElem_map]
    exact start_good (h.ok j (by simpa using hj)).rv
  · simp only [List.getElem_map] at hjb hkb
    exact h.apart j k (by simpa using hj) (by simpa using hk) hne b (.inl (start_has.1 hjb)) (.inl (start_has.1 hkb))
/-- what stays: every block but those of one element type -/
structure KeptBut (e : TypeId) (W w' : World) : Prop where
  size : W.heap.size ≤ w'.heap.size
  kept : ∀ (k : Nat) (o : Obj), W.heap[k]? = some o → (∀ cs fr, o ≠ .cells cs e fr) → w'.heap[k]? = some o
theorem KeptBut.refl (e : TypeId) (W : World) : KeptBut e W W := ⟨Nat.le_refl _, fun _ _ h _ => h⟩
theorem KeptBut.trans {W w1 w2 : World} (h : KeptBut e W w1) (k : KeptBut e w1 w2) : KeptBut e W w2 := ⟨Nat.le_trans h.size k.size, fun b o ho hn => k.kept b o (h.kept b o ho hn) hn⟩
theorem KeptBut.of_below {W w' : World} (h : Below W.heap.size W w') : KeptBut e W w' := ⟨h.size, fun k o ho _ => (h.block k (Array.getElem?_eq_some_iff.1 ho).1).trans ho⟩
theorem KeptBut.grown {W w' : World} {g : Nat} {cs : Array Value} {fr : Nat × Nat} (hc : W.heap[g]? = some (.cells cs e fr)) (hg : W.grownBy w' (some g)) : KeptBut e W w' := ⟨hg.size, fun k o ho hn =>
  (hg.block k (Array.getElem?_eq_some_iff.1 ho).1 (fun he => by
    obtain rfl : k = g := Option.some.inj he
    rw [hc] at ho
    exact hn cs fr (Option.some.inj ho).symm)).trans ho⟩
end
end Go.Proofs.YtkhnjckkjdldbaaGreatDoor.Bag
namespace Go.Proofs.YtkhnjckkjdldbaaGreatDoor.Bag
open Go.RowKit Go.Proofs.YtkhnjckkjdldbaaGreatDoorW.PrintWords Go.Deep
set_option linter.unusedVariables false
set_option linter.unusedSimpArgs false
/-! WHAT IS KEPT ACROSS AN APPEND -/
section
variable {α : Type} {enc : α → List Value} {size base : Nat} {e : TypeId}
theorem KeptBut.none {W w1 w2 : World} (h : KeptBut e W w1) (hg : w1.grownBy w2 none) : KeptBut e W w2 := h.trans ⟨hg.size, fun k o ho _ => (hg.block k (Array.getElem?_eq_some_iff.1 ho).1 (by simp)).trans ho⟩
theorem KeptBut.alloc {W w1 : World} (h : KeptBut e W w1) (o : Obj) : KeptBut e W (w1.alloc o) := h.trans (KeptBut.of_below (below_alloc (Below.refl _ _) o))
theorem KeptBut.step {W w1 w2 : World} (h : KeptBut e W w1) (hb : Below w1.heap.size w1 w2) : KeptBut e W w2 := h.trans (KeptBut.of_below hb)
theorem KeptBut.app {W w1 w2 : World} {v : Value} {xs : List α} {n g cap : Nat} (h : KeptBut e W w1) (hr : Row enc size base e w1 v xs) (hA : AppTo w1 w2 v n g cap) : KeptBut e W w2 := by
  rcases hA with ⟨hv, hg⟩ | ⟨_, hg⟩
  · rcases hr.shape with ⟨h1, _⟩ | ⟨g', cap', h1, _, _, cs, hc⟩
    · rw [hv] at h1; cases h1
    · rw [hv] at h1
      simp only [Value.slice.injEq, Option.some.injEq, Addr.mk.injEq, and_true, true_and] at h1
      obtain ⟨rfl, _⟩ := h1
      exact h.trans (KeptBut.grown hc hg)
  · exact h.none hg
theorem below_app {w0 w1 w2 : World} {v : Value} {n g cap : Nat} (h : Below w0.heap.size w0 w1) (hv : ∀ b, v.ownBlock = some b → w0.heap.size ≤ b) (hA : AppTo w1 w2 v n g cap) : Below w0.heap.size w0 w2 := by
  have go : ∀ r, w1.grownBy w2 r → (∀ b, r = some b → w0.heap.size ≤ b) → Below w0.heap.size w0 w2 := fun r hg hr =>
    ⟨hg.os.trans h.os, hg.tape.trans h.tape, hg.output.trans h.output, Nat.le_trans h.size hg.size, fun k hk => (hg.block k (Nat.lt_of_lt_of_le hk h.size) (fun e => by have := hr k e.symm; omega)).trans (h.block k hk)⟩
  rcases hA with ⟨h1, hg⟩ | ⟨_, hg⟩
  · exact go _ hg fun b hb => hv b (by rw [h1]; exact hb)
  · exact go _ hg fun b hb => by cases hb
/-- a write to a block of another element type -/
theorem BagI.other {W w' : World} {its : List (Item α)} (h : BagI enc size base e W its) {r : Option Nat} (hg : W.grownBy w' r) (hr : ∀ b, r = some b → ∃ cs fr t, W.heap[b]? = some (.cells cs t fr) ∧ t ≠ e) : BagI enc size base e w' its := by
  have typed : ∀ {v : Value} {xs : List α}, Row enc size base e W v xs → ∀ b, v.ownBlock = some b → r ≠ some b := fun {v xs} hv b hb he => by
    obtain ⟨cs, fr, t, hc, ht⟩ := hr b he
    rcases hv.shape with ⟨h1, _⟩ | ⟨g, cap, h1, _, _, cs', hc'⟩
    · rw [h1] at hb; cases hb
    · rw [h1] at hb
      obtain rfl : g = b := by simpa [Value.ownBlock] using hb
      rw [hc] at hc'
      simp only [Option.some.injEq, Obj.cells.injEq] at hc'
      exact ht hc'.2.1
  exact ⟨fun j hj => (h.ok j hj).keep hg fun b hb => hb.elim (typed (h.ok j hj).rv b) (typed (h.ok j hj).rm b), h.apart⟩
/-- an append to a row of another element type -/
theorem BagI.otherApp {β : Type} {enc' : β → List Value} {size' base' : Nat} {e' : TypeId} {W w' : World} {its : List (Item α)} (h : BagI enc size base e W its) {v : Value} {xs : List β} {n g cap : Nat} (hr : Row enc' size' base' e' W v xs) (hA : AppTo W w' v n g cap) (hne : e' ≠ e) : BagI enc size base e w' its := by
  rcases hA with ⟨hv, hg⟩ | ⟨_, hg⟩
  · refine h.other hg fun b hb => ?_
    rcases hr.shape with ⟨h1, _⟩ | ⟨g', cap', h1, _, _, cs, hc⟩
    · rw [hv] at h1; cases h1
    · rw [hv] at h1
      simp only [Value.slice.injEq, Option.some.injEq, Addr.mk.injEq, and_true, true_and] at h1
      obtain ⟨rfl, _⟩ := h1
      cases hb
      exact ⟨cs, (0, 0), e', hc, hne⟩
  · exact h.other hg fun b hb => by cases hb
end
/-- a list of slices: one cell each -/
abbrev encS (v : Value) : List Value := [v]
/-- the lists of a bag: their slices, what they hold -/
abbrev Lists (α : Type) := List (Value × List α)
/-- the items that grown has under way: so many are done, the next one is grown by k -/
structure Under {α : Type} (mk2 : Int → α) (by_ : Nat) (L : Lists α) (i k : Nat) (its : List (Item α)) : Prop where
  len : its.length = L.length
  v : ∀ j (hj : j < L.length), (its[j]'(by rw [len]; exact hj)).v = L[j].1
  xs : ∀ j (hj : j < L.length), (its[j]'(by rw [len]; exact hj)).xs = L[j].2
  done : ∀ j (hj : j < L.length), j < i → (its[j]'(by rw [len]; exact hj)).ys = List.replicate by_ (mk2 j)
  now : ∀ (hj : i < L.length), (its[i]'(by rw [len]; exact hj)).ys = List.replicate k (mk2 i)
  mnow : ∀ (hj : i < L.length), k = 0 → (its[i]'(by rw [len]; exact hj)).m = L[i].1
  rest : ∀ j (hj : j < L.length), i < j → (its[j]'(by rw [len]; exact hj)).ys = [] ∧ (its[j]'(by rw [len]; exact hj)).m = L[j].1
theorem Under.start {α : Type} {mk2 : Int → α} {by_ : Nat} {L : Lists α} : Under mk2 by_ L 0 0 (L.map fun x => Bag.start x.1 x.2) := by
  refine ⟨by simp, fun j hj => by simp [Bag.start], fun j hj => by simp [Bag.start], fun j hj h => absurd h (Nat.not_lt_zero _), fun hj => by simp [Bag.start], fun hj _ => by simp [Bag.start], fun j hj _ => by simp [Bag.start]⟩
theorem Under.next {α : Type} {mk2 : Int → α} {by_ : Nat} {L : Lists α} {i : Nat} {its : List (Item α)} (h : Under mk2 by_ L i by_ its) : Under mk2 by_ L (i + 1) 0 its := by
  refine ⟨h.len, h.v, h.xs, fun j hj hji => ?_, fun hj => (h.rest (i + 1) hj (by omega)).1, fun hj _ => (h.rest (i + 1) hj (by omega)).2, fun j hj hji => h.rest j hj (by omega)⟩
  by_cases e : j = i
  · subst e; exact h.now hj
  · exact h.done j hj (by omega)
theorem Under.grow {α : Type} {mk2 : Int → α} {by_ : Nat} {L : Lists α} {i k : Nat} {its : List (Item α)} (h : Under mk2 by_ L i k its) (hi : i < L.length) {m : Value} {it : Item α} (hit : its[i]? = some it) :
    Under mk2 by_ L i (k + 1) (its.set i ⟨it.v, it.xs, m, it.ys ++ [mk2 i]⟩) := by
  have hi' : i < its.length := by rw [h.len]; exact hi
  rw [List.getElem?_eq_getElem hi'] at hit
  have hit := (Option.some.inj hit).symm
  subst hit
  refine ⟨by simp [h.len], fun j hj => ?_, fun j hj => ?_, fun j hj hji => ?_, fun hj => ?_, fun hj h0 => by omega, fun j hj hji => ?_⟩
  · rw [List.getElem_set]; split
    · rename_i e; subst e; exact h.v i hi
    · exact h.v j hj
  · rw [List.getElem_set]; split
    · rename_i e; subst e; exact h.xs i hi
    · exact h.xs j hj
  · rw [List.getElem_set_ne (by omega)]; exact h.done j hj hji
  · rw [List.getElem_set_self]
    show its[i].ys ++ [mk2 i] = _
    rw [h.now hi, List.replicate_succ']
  · rw [List.getElem_set_ne (by omega)]; exact h.rest j hj hji
section
variable {α : Type} {enc : α → List Value} {size base : Nat} {e : TypeId}
theorem encS_flat (l : List Value) : l.flatMap encS = l := by
  induction l with
  | nil => rfl
  | cons x l ih => rw [List.flatMap_cons, ih]; rfl
theorem row_of_own {W : World} {v : Value} {n : Nat} {l : List Value} (h : W.ownsRow base e 1 v n l) (hn : l.length = n) : Row encS 1 base e W v l := by
  unfold Row
  rw [encS_flat, hn]; exact h
theorem own_below {W w' : World} {base' n : Nat} {e' : TypeId} {size' : Nat} {v : Value} {xs : List Value} (h : W.ownsRow base' e' size' v n xs) (hb : Below W.heap.size W w') : w'.ownsRow base' e' size' v n xs :=
  own_move h fun k hk => hb.block k (World.ownsRow.lt h k hk).2
/-- a row of another element type stays across an append -/
theorem own_otherApp {W w' : World} {base' n' : Nat} {e' : TypeId} {size' : Nat} {u : Value} {us : List Value} (h : W.ownsRow base' e' size' u n' us) {v : Value} {xs : List α} {n g cap : Nat} (hr : Row enc size base e W v xs) (hA : AppTo W w' v n g cap) (hne : e' ≠ e) : w'.ownsRow base' e' size' u n' us := by
  rcases hA with ⟨hv, hg⟩ | ⟨_, hg⟩
  · refine World.ownsRow.kept h hg ?_
    cases hb : u.ownBlock with
    | none => exact .inl rfl
    | some b =>
      refine .inr fun he => ?_
      obtain rfl : b = g := Option.some.inj he
      obtain ⟨c1, h1⟩ := own_typed h b hb
      rcases hr.shape with ⟨h2, _⟩ | ⟨g', cap', h2, _, _, cs, hc⟩
      · rw [hv] at h2; cases h2
      · rw [hv] at h2
        simp only [Value.slice.injEq, Option.some.injEq, Addr.mk.injEq, and_true, true_and] at h2
        obtain ⟨rfl, _⟩ := h2
        rw [hc] at h1
        simp only [Option.some.injEq, Obj.cells.injEq] at h1
        exact hne h1.2.1.symm
  · refine World.ownsRow.kept h hg ?_
    cases hb : u.ownBlock with
    | none => exact .inl rfl
    | some b => exact .inr (by simp)
theorem Row.slice {W : World} {v : Value} {xs : List α} (h : Row enc size base e W v xs) : ∃ A c, v = .slice A xs.length c ∧ xs.length ≤ c := by
  rcases h.shape with ⟨rfl, rfl⟩ | ⟨g, cap, h1, h2, _⟩
  · exact ⟨none, 0, rfl, Nat.le_refl _⟩
  · exact ⟨_, cap, h1, h2⟩
end
end Go.Proofs.YtkhnjckkjdldbaaGreatDoor.Bag
