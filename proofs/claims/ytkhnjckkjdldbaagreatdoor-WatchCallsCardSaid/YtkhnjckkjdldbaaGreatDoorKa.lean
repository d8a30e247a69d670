import Derived.Test.YtkhnjckkjdldbaaGreatDoorPr9
import Derived.WalkKit
import Derived.Maps.OwnSet
import Derived.Maps.RangeWalk
import Derived.Maps.Views
import Derived.DeepKeys4
import Derived.MapViews
import Derived.Shelf.SlSortCmp.WholeK
import Derived.Sort.OwnSortedInts
import Derived.Test.YtkhnjckkjdldbaaGreatDoorH
import Derived.Lib.QuietBelow
namespace Go.Proofs.YtkhnjckkjdldbaaGreatDoor.Q
open Go.RowKit Go.Proofs.YtkhnjckkjdldbaaGreatDoorW.PrintWords Go.Deep Go.Maps Go.WideShapes
open Go.Proofs.YtkhnjckkjdldbaaGreatDoor.Pr (S57)
set_option linter.unusedVariables false
set_option linter.unusedSimpArgs false
/-! A WATCH AS A MAP'S KEY -/
theorem laidAll : laidOutB Tryz.prog = true := by kernel_rfl
theorem watch_key : Tryz.prog.keyTypeAt 3 57 = true := by kernel_rfl
theorem watch_keyed : Keyed Tryz.prog 57 := Keyed.of_law (deep_law_laid laidAll (m := 3) (by omega) (of_decide_eq_true (by kernel_rfl)) watch_key (by kernel_rfl))
def wfW (x : S57) : Prop := (Lit.int .i64 x.f0).wf = true ∧ (Lit.int .i8 x.f1).wf = true ∧ x.f2.size ≤ maxLen
abbrev encW (x : S57) : List Value := [.int .i64 x.f0, .int .i8 x.f1, .string x.f2]
def keyL (x : S57) : Lit := .string (keyBytes [.int .i64 x.f0, .int .i8 x.f1, .string x.f2.data.toList])
theorem keyL_key (x : S57) : WideAt.IsKeyLit (keyL x) := by unfold keyL; trivial
theorem watch_fields : ∃ fs, Tryz.prog.underlying 57 = some (.struct fs) ∧ fs.toList.map (fun f => (f.type, f.offset)) = [(2, 0), (55, 1), (9, 2)] ∧ fs.all (·.name != "_") = true := ⟨_, Tryz.underlying57, by kernel_rfl, by kernel_rfl⟩
set_option maxRecDepth 100000 in
theorem litsOf (d : Nat) (cs : List Value) (l : List Lit) : Tryz.prog.keyLits (d + 2) 57 cs = some l ↔ ∃ a b s, cs = [.int .i64 a, .int .i8 b, .string s] ∧ (Lit.int .i64 a).wf = true ∧ (Lit.int .i8 b).wf = true ∧ s.size ≤ maxLen ∧ l = [.int .i64 a, .int .i8 b, .string s.data.toList] := by
  obtain ⟨fs, h1, h2, h3⟩ := watch_fields
  have c0 : Tryz.prog.cellsOf 57 = 3 := by kernel_rfl
  have c1 : Tryz.prog.cellsOf 2 = 1 := by kernel_rfl
  have c2 : Tryz.prog.cellsOf 55 = 1 := by kernel_rfl
  have c3 : Tryz.prog.cellsOf 9 = 1 := by kernel_rfl
  obtain ⟨f0, f1, f2, hf, t0, o0, t1, o1, t2, o2⟩ : ∃ f0 f1 f2, fs.toList = [f0, f1, f2] ∧ f0.type = 2 ∧ f0.offset = 0 ∧ f1.type = 55 ∧ f1.offset = 1 ∧ f2.type = 9 ∧ f2.offset = 2 := by
    have hl : fs.toList.length = 3 := by have := congrArg List.length h2; simpa using this
    match hh : fs.toList, hl with
    | [f0, f1, f2], _ =>
      rw [hh] at h2
      simp only [List.map_cons, List.map_nil, List.cons.injEq, Prod.mk.injEq, and_true] at h2
      exact ⟨f0, f1, f2, rfl, h2.1.1, h2.1.2, h2.2.1.1, h2.2.1.2, h2.2.2.1, h2.2.2.2⟩
  have k0 : ∀ c : Value, Tryz.prog.keyLits (d + 1) 2 [c] = match c with | .int .i64 n => if (Lit.int .i64 n).wf = true then some [.int .i64 n] else none | _ => none := fun c => by
    unfold Program.keyLits
    rw [Tryz.underlying2]
    cases c with
    | int q n => cases q <;> simp
    | _ => rfl
  have k1 : ∀ c : Value, Tryz.prog.keyLits (d + 1) 55 [c] = match c with | .int .i8 n => if (Lit.int .i8 n).wf = true then some [.int .i8 n] else none | _ => none := fun c => by
    unfold Program.keyLits
    rw [Tryz.underlying55]
    cases c with
    | int q n => cases q <;> simp
    | _ => rfl
  have k2 : ∀ c : Value, Tryz.prog.keyLits (d + 1) 9 [c] = match c with | .string s => if s.size ≤ maxLen then some [.string s.data.toList] else none | _ => none := fun c => by
    unfold Program.keyLits
    rw [Tryz.underlying9]
    cases c <;> rfl
  rw [show d + 2 = (d + 1) + 1 from rfl]
  unfold Program.keyLits
  rw [h1]
  simp only [c0, h3, and_true]
  constructor
  · intro h
    split at h
    · rename_i hl
      match cs, hl with
      | [x0, x1, x2], _ =>
        simp only [hf, List.mapM_cons, List.mapM_nil, t0, o0, t1, o1, t2, o2, c1, c2, c3, List.drop_zero, List.drop_succ_cons, List.take_succ_cons, List.take_zero, k0, k1, k2] at h
        cases x0 with
        | int q0 n0 =>
          cases q0 <;> try (simp at h; done)
          cases x1 with
          | int q1 n1 =>
            cases q1 <;> try (simp at h; done)
            cases x2 with
            | string s =>
              by_cases w0 : (Lit.int .i64 n0).wf = true
              · by_cases w1 : (Lit.int .i8 n1).wf = true
                · by_cases w2 : s.size ≤ maxLen
                  · simp [w0, w1, w2] at h
                    exact ⟨n0, n1, s, rfl, w0, w1, w2, h.symm⟩
                  · simp [w0, w1, w2] at h
                · simp [w0, w1] at h
              · simp [w0] at h
            | _ => simp at h
          | _ => simp at h
        | _ => simp at h
    · cases h
  · rintro ⟨a, b, s, rfl, w0, w1, w2, rfl⟩
    rw [if_pos (by rfl)]
    simp only [hf, List.mapM_cons, List.mapM_nil, t0, o0, t1, o1, t2, o2, c1, c2, c3, List.drop_zero, List.drop_succ_cons, List.take_succ_cons, List.take_zero, k0, k1, k2, w0, w1, w2, if_true]
    rfl
theorem types_two : ∃ d, Tryz.prog.types.size + 1 = d + 2 := ⟨Tryz.prog.types.size - 1, by have : 1 ≤ Tryz.prog.types.size := of_decide_eq_true (by kernel_rfl); omega⟩
theorem keyOf_unfold (v : Value) : keyOf Tryz.prog 57 v = if v.formed Tryz.prog 57 then (Tryz.prog.keyLits (Tryz.prog.types.size + 1) 57 v.cells.toList).map fun ls => .string (keyBytes ls) else none := by
  obtain ⟨fs, h1, _⟩ := watch_fields
  have hk : Tryz.prog.keyType 57 = true := by kernel_rfl
  unfold keyOf
  rw [h1, hk]
  simp
theorem keyOf_watch {x : S57} (hx : wfW x) : keyOf Tryz.prog 57 (.agg (encW x).toArray) = some (keyL x) := by
  obtain ⟨d, hd⟩ := types_two
  rw [keyOf_unfold, hd, if_pos (by kernel_rfl)]
  have hc : (Value.agg (encW x).toArray).cells.toList = [.int .i64 x.f0, .int .i8 x.f1, .string x.f2] := rfl
  rw [hc, (litsOf d _ _).2 ⟨x.f0, x.f1, x.f2, rfl, hx.1, hx.2.1, hx.2.2, rfl⟩]
  rfl
theorem keyOf_watch_inv {v : Value} {l : Lit} (h : keyOf Tryz.prog 57 v = some l) : ∃ x, wfW x ∧ v = .agg (encW x).toArray ∧ l = keyL x := by
  obtain ⟨d, hd⟩ := types_two
  rw [keyOf_unfold, hd] at h
  split at h
  · rename_i hf
    obtain ⟨ls, h1, h2⟩ := Option.map_eq_some_iff.1 h
    obtain ⟨a, b, s, hc, w0, w1, w2, rfl⟩ := (litsOf d _ _).1 h1
    obtain ⟨fs, hu, _⟩ := watch_fields
    cases v with
    | agg cs =>
      refine ⟨⟨a, b, s⟩, ⟨w0, w1, w2⟩, ?_, h2.symm⟩
      have : cs.toList = [.int .i64 a, .int .i8 b, .string s] := hc
      have : cs = [.int .i64 a, .int .i8 b, .string s].toArray := by rw [← this]
      rw [this]
    | _ => simp [Value.formed, hu] at hf
  · cases h
theorem keyL_inj {x y : S57} (hx : wfW x) (hy : wfW y) (h : keyL x = keyL y) : x = y := by
  have h1 := watch_keyed.inj (keyOf_watch hx) (h ▸ keyOf_watch hy)
  obtain ⟨a, b, s⟩ := x
  obtain ⟨a', b', s'⟩ := y
  simp at h1
  obtain ⟨rfl, rfl, rfl⟩ := h1
  rfl
/-! A MAP FROM WATCHES TO NUMBERS -/
abbrev WN := List (S57 × Int)
structure MapOf (D : DataW Unit) (P : WN) : Prop where
  tidy : Tidy D
  wf : ∀ p ∈ P, wfW p.1
  has : ∀ k, Maps.has D k = true ↔ ∃ p ∈ P, keyL p.1 = k
  at_ : ∀ p ∈ P, ∀ z, D.atKey (keyL p.1) z = .lit (.int .i64 p.2)
  nodup : P.Pairwise (fun p q => p.1 ≠ q.1)
  size : Maps.size D = P.length
theorem MapOf.empty : MapOf (.map []) [] where
  tidy := tidy_empty
  wf := fun p h => (by cases h)
  has := fun k => by simp [Maps.has]
  at_ := fun p h => (by cases h)
  nodup := List.Pairwise.nil
  size := rfl
theorem MapOf.has_key {D : DataW Unit} {P : WN} (h : MapOf D P) {x : S57} (hx : wfW x) : Maps.has D (keyL x) = true ↔ ∃ n, (x, n) ∈ P := by
  rw [h.has]
  constructor
  · rintro ⟨⟨y, n⟩, h1, h2⟩
    exact ⟨n, by rw [← keyL_inj (h.wf _ h1) hx h2]; exact h1⟩
  · rintro ⟨n, h1⟩
    exact ⟨(x, n), h1, rfl⟩
theorem MapOf.no_key {D : DataW Unit} {P : WN} (h : MapOf D P) {x : S57} (hx : wfW x) (hn : ∀ n, (x, n) ∉ P) : Maps.has D (keyL x) = false := by
  cases e : Maps.has D (keyL x) with
  | false => rfl
  | true => obtain ⟨n, h1⟩ := (h.has_key hx).1 e; exact absurd h1 (hn n)
theorem MapOf.put {D : DataW Unit} {P : WN} (h : MapOf D P) {x : S57} (hx : wfW x) (hn : ∀ n, (x, n) ∉ P) (m : Int) : MapOf (D.put (keyL x) (.lit (.int .i64 m))) (P ++ [(x, m)]) := by
  have hne : ∀ p ∈ P, keyL p.1 ≠ keyL x := fun p hp e => hn p.2 (by rw [← keyL_inj (h.wf _ hp) hx e]; exact hp)
  refine ⟨h.tidy.put (keyL_key x) _, fun p hp => ?_, fun k => ?_, fun p hp z => ?_, ?_, ?_⟩
  · rcases List.mem_append.1 hp with hp | hp
    · exact h.wf p hp
    · rw [List.mem_singleton.1 hp]; exact hx
  · by_cases e : k = keyL x
    · subst e
      exact ⟨fun _ => ⟨(x, m), by simp, rfl⟩, fun _ => has_put_same h.tidy.isMap (keyL_key x) _⟩
    · rw [has_put_other e, h.has]
      constructor
      · rintro ⟨p, hp, h2⟩; exact ⟨p, List.mem_append_left _ hp, h2⟩
      · rintro ⟨p, hp, h2⟩
        rcases List.mem_append.1 hp with hp | hp
        · exact ⟨p, hp, h2⟩
        · rw [List.mem_singleton.1 hp] at h2; exact absurd h2.symm e
  · rcases List.mem_append.1 hp with hp | hp
    · rw [atKey_put_other (hne p hp)]; exact h.at_ p hp z
    · rw [List.mem_singleton.1 hp, atKey_put_same h.tidy.isMap (keyL_key x)]
  · rw [List.pairwise_append]
    exact ⟨h.nodup, List.pairwise_singleton _ _, fun p hp q hq e => by rw [List.mem_singleton.1 hq] at e; exact hne p hp (by rw [e])⟩
  · rw [size_put h.tidy, h.no_key hx hn, h.size]; simp
theorem MapOf.del {D : DataW Unit} {P : WN} (h : MapOf D P) {x : S57} {n : Int} (hp : (x, n) ∈ P) (keep : S57 × Int → Bool) (hk : ∀ p ∈ P, keep p = true ↔ p.1 ≠ x) : MapOf (D.del (keyL x)) (P.filter keep) := by
  have hx := h.wf _ hp
  have hne : ∀ p ∈ P, p.1 ≠ x → keyL p.1 ≠ keyL x := fun p hp h1 e => h1 (keyL_inj (h.wf _ hp) hx e)
  have hmem : ∀ p, p ∈ P.filter keep ↔ p ∈ P ∧ p.1 ≠ x := fun p => by
    rw [List.mem_filter]
    exact ⟨fun ⟨a, b⟩ => ⟨a, (hk p a).1 b⟩, fun ⟨a, b⟩ => ⟨a, (hk p a).2 b⟩⟩
  refine ⟨h.tidy.del _, fun p hp => h.wf p (((hmem p).1 hp).1), fun k => ?_, fun p hp z => ?_, ?_, ?_⟩
  · by_cases e : k = keyL x
    · subst e
      rw [has_del_same]
      constructor
      · intro h1; cases h1
      · rintro ⟨p, h1, h2⟩; exact absurd h2 (hne p ((hmem p).1 h1).1 ((hmem p).1 h1).2)
    · rw [has_del_other e, h.has]
      constructor
      · rintro ⟨p, h1, h2⟩
        exact ⟨p, (hmem p).2 ⟨h1, fun e2 => e (by rw [← h2, e2])⟩, h2⟩
      · rintro ⟨p, h1, h2⟩; exact ⟨p, ((hmem p).1 h1).1, h2⟩
  · have := (hmem p).1 hp
    rw [atKey_del_other (hne p this.1 this.2)]; exact h.at_ p this.1 z
  · exact h.nodup.filter _
  · have h1 := size_del (k := keyL x) h.tidy
    rw [(h.has_key hx).2 ⟨n, hp⟩, h.size] at h1
    have key : ∀ Q : WN, Q.Pairwise (fun p q => p.1 ≠ q.1) → (∀ p ∈ Q, p ∈ P) → (x, n) ∈ Q → (Q.filter keep).length + 1 = Q.length := by
      intro Q
      induction Q with
      | nil => intro _ _ h; cases h
      | cons q Q ih =>
        intro hq hs hm
        rw [List.pairwise_cons] at hq
        by_cases e : q.1 = x
        · have h2 : keep q = false := by
            cases hc : keep q with
            | false => rfl
            | true => exact absurd e ((hk q (hs q List.mem_cons_self)).1 hc)
          have h3 : Q.filter keep = Q := List.filter_eq_self.2 fun p hp => (hk p (hs p (List.mem_cons_of_mem _ hp))).2 fun e2 => hq.1 p hp (by rw [e, e2])
          rw [List.filter_cons_of_neg (by rw [h2]; simp), h3]; rfl
        · have h2 : keep q = true := (hk q (hs q List.mem_cons_self)).2 e
          rw [List.filter_cons_of_pos h2, List.length_cons, List.length_cons]
          rcases List.mem_cons.1 hm with h | h
          · exact absurd (by rw [← h]) e
          · rw [ih hq.2 (fun p hp => hs p (List.mem_cons_of_mem _ hp)) h]
    have := key P h.nodup (fun p h => h) hp
    simp only [if_true] at h1
    omega
end Go.Proofs.YtkhnjckkjdldbaaGreatDoor.Q
namespace Go.Proofs.YtkhnjckkjdldbaaGreatDoor.Q
open Go.RowKit Go.Proofs.YtkhnjckkjdldbaaGreatDoorW.PrintWords Go.Deep Go.Maps Go.WideShapes Go.Sort
open Go.Proofs.YtkhnjckkjdldbaaGreatDoor.Pr (S57)
set_option linter.unusedVariables false
set_option linter.unusedSimpArgs false
/-! A ROW OF ELEMENTS OF k CELLS, SORTED -/
section
variable {α : Type} {enc : α → List Value} {k : Nat}
theorem flat_lenK (henc : ∀ x, (enc x).length = k) (l : List α) : (l.flatMap enc).length = l.length * k := by
  induction l with
  | nil => simp
  | cons x l ih => rw [List.flatMap_cons, List.length_append, ih, henc, List.length_cons, Nat.add_mul]; omega
theorem flat_getK (henc : ∀ x, (enc x).length = k) : ∀ (xs : List α) (i : Nat) (hi : i < xs.length) (j : Nat), j < k → (xs.flatMap enc)[i * k + j]? = (enc xs[i])[j]?
  | x :: xs, 0, hi, j, hj => by
    rw [List.flatMap_cons, Nat.zero_mul, Nat.zero_add, List.getElem?_append_left (by rw [henc]; exact hj)]; rfl
  | x :: xs, i + 1, hi, j, hj => by
    rw [List.flatMap_cons, List.getElem?_append_right (by rw [henc, Nat.add_mul]; omega), henc, show (i + 1) * k + j - k = i * k + j by rw [Nat.add_mul]; omega, flat_getK henc xs i (by simpa using hi) j hj]
    rfl
theorem flatK_eq [Inhabited α] (henc : ∀ x, (enc x).length = k) (d : List α) : flatK enc k d.toArray = (d.flatMap enc).toArray := by
  refine ext_get! (by simp [flat_lenK henc]) fun t ht => ?_
  have ht' : t < d.length * k := by simpa using ht
  have k0 : 0 < k := by
    rcases Nat.eq_zero_or_pos k with h | h
    · subst h; simp at ht'
    · exact h
  have h1 : t / k < d.length := (Nat.div_lt_iff_lt_mul k0).2 ht'
  have h2 : t % k < k := Nat.mod_lt _ k0
  have h3 : t / k * k + t % k = t := by rw [Nat.mul_comm]; exact Nat.div_add_mod t k
  rw [get_flatK _ _ _ _ (by simpa using ht')]
  have h4 := flat_getK henc d (t / k) h1 (t % k) h2
  rw [h3] at h4
  have hlt : t < (d.flatMap enc).length := by rw [flat_lenK henc]; exact ht'
  have h5 : (d.flatMap enc).toArray[t]! = (d.flatMap enc)[t] := by
    rw [getElem!_pos (d.flatMap enc).toArray t (by simpa using hlt)]
    rfl
  have h6 : (d.toArray)[t / k]! = d[t / k] := by simp [h1]
  have h7 : t % k < (enc d[t / k]).length := by rw [henc]; exact h2
  rw [List.getElem?_eq_getElem hlt, List.getElem?_eq_getElem h7] at h4
  rw [h6, getElem!_pos (enc d[t / k]) (t % k) h7, h5]
  exact (Option.some.inj h4).symm
end
theorem holds_of_blockV {w : World} {g : Nat} {cur : Array Value} {e : TypeId} {ss : List Value} (hb : w.heap[g]? = some (.cells cur e (0, 0))) (ht : cur.toList.take ss.length = ss) : Holds id w g 0 ss.toArray := by
  intro j hj
  have hj' : j < ss.length := by simpa using hj
  refine ⟨?_, by simp [World.frozen?, hb]⟩
  have h1 : (cur.toList.take ss.length)[j]? = ss[j]? := by rw [ht]
  rw [List.getElem?_take_of_lt hj'] at h1
  simp only [World.cell?, hb, Nat.zero_add]
  simp only [Option.isSome_none, Bool.false_eq_true, if_false]
  rw [← Array.getElem?_toList, h1]
  simp [hj']
theorem heap_sortedV {w : World} {g n : Nat} {os : Array Obj} {cur : Array Value} {e : TypeId} {fr : Nat × Nat} (d : Array Value) (hb : w.heap[g]? = some (.cells cur e fr)) :
    (grow (putRow id (Sort.ahead w n) g 0 d) os).heap[g]? = some (.cells (putCells id 0 d cur) e fr) := by
  have hg : g < w.heap.size := (Array.getElem?_eq_some_iff.1 hb).1
  rw [heap_grow_old _ _ (by simpa using hg)]
  simp [putRow, mapBlock, Sort.ahead, Array.getElem?_modify, hb, onCells]
theorem grownBy_sortedV {w : World} {g n : Nat} {os : Array Obj} (d : Array Value) : w.grownBy (grow (putRow id (Sort.ahead w n) g 0 d) os) (some g) := by
  refine ⟨rfl, rfl, rfl, by simp, fun k hk hne => ?_⟩
  rw [heap_grow_old _ _ (by simpa using hk)]
  have : g ≠ k := fun e => hne (by rw [e])
  simp [putRow, mapBlock, Sort.ahead, Array.getElem?_modify, this]
theorem take_putCellsV (cur : Array Value) (ts : List Value) (h : ts.length ≤ cur.size) : (putCells id 0 ts.toArray cur).toList.take ts.length = ts := by
  apply List.ext_getElem?
  intro j
  by_cases hj : j < ts.length
  · rw [List.getElem?_take_of_lt hj, Array.getElem?_toList]
    simp [putCells, hj, show j < cur.size by omega]
  · rw [List.getElem?_take_eq_none (by omega), List.getElem?_eq_none (by omega)]
/-- BEHIND THE SORT the same slice owns the sorted list. -/
theorem ownsRow_sortedV {w : World} {base g cap n m k : Nat} {e : TypeId} {os : Array Obj} {cur : Array Value} {ts : List Value} (hl : ts.length = m * k) (hbase : base ≤ g) (hb : w.heap[g]? = some (.cells cur e (0, 0)))
    (h1 : m ≤ cap) (h2 : cap ≤ maxLen) (h3 : cur.size = cap * k) :
    (grow (putRow id (Sort.ahead w n) g 0 ts.toArray) os).ownsRow base e k (.slice (some ⟨g, 0, none⟩) m cap) m ts :=
  ⟨hl, .inr ⟨g, cap, _, rfl, hbase, heap_sortedV _ hb, h1, h2, by simp [putCells, h3], by rw [← hl]; exact take_putCellsV cur ts (by rw [hl, h3]; exact Nat.mul_le_mul_right _ h1)⟩⟩
/-- two lists that hold the same and rise by a number that tells their elements apart are one -/
theorem rising_unique {β : Type} (key : β → Int) : ∀ {l m : List β}, l.Perm m → l.Pairwise (fun x y => key x < key y) → m.Pairwise (fun x y => key x < key y) → l = m
  | [], m, h, _, _ => (List.nil_perm.1 h).symm
  | x :: l, [], h, _, _ => absurd h.symm (by simp)
  | x :: l, y :: m, h, hl, hm => by
    rw [List.pairwise_cons] at hl hm
    have hxy : x = y := by
      have h1 : x ∈ y :: m := h.subset List.mem_cons_self
      have h2 : y ∈ x :: l := h.symm.subset List.mem_cons_self
      rcases List.mem_cons.1 h1 with e | e
      · exact e
      · rcases List.mem_cons.1 h2 with e2 | e2
        · exact e2.symm
        · have := hm.1 x e; have := hl.1 y e2; omega
    subst hxy
    rw [rising_unique key (List.Perm.cons_inv h) hl.2 hm.2]
end Go.Proofs.YtkhnjckkjdldbaaGreatDoor.Q
namespace Go.Proofs.YtkhnjckkjdldbaaGreatDoor.Q
open Go.RowKit Go.Proofs.YtkhnjckkjdldbaaGreatDoorW.PrintWords Go.Deep Go.Maps Go.WideShapes
open Go.Proofs.YtkhnjckkjdldbaaGreatDoor.Pr (S57 S59 z57 k57 k59)
set_option linter.unusedVariables false
set_option linter.unusedSimpArgs false
attribute [local go_sem] Oper.semAt_some
theorem cell_rowK {W : World} {g k : Nat} {t : TypeId} {cs : Array Value} {v : Value} (h : W.heap[g]? = some (.cells cs t (0, 0))) (hk : cs[k]? = some v) : W.cell? ⟨g, k, none⟩ = some v := (cell_of_row W g k _ _ _ h).trans hk
theorem blkK {W w' : World} {k : Nat} {o : Obj} (h : W.heap[k]? = some o) (hb : Below W.heap.size W w') : w'.heap[k]? = some o := (hb.block k (Array.getElem?_eq_some_iff.1 h).1).trans h
/-! A BOARD IN MEMORY -/
structure Brd (c b : Nat) (came : Int) (P : WN) (W : World) : Prop where
  cells : W.heap[c]? = some (.cells #[.bool true, .map (some b), .int .i64 came] 80 (0, 0))
  map : ∃ D, W.ownsMap Tryz.prog 57 (plainElem Tryz.prog 3) b came.toNat D ∧ MapOf D P
  rise : P.Pairwise (fun p q => p.2 < q.2)
  low : ∀ p ∈ P, 0 ≤ p.2 ∧ p.2 < came
  c0 : 0 ≤ came
  few : P.length ≤ 64
theorem ownsMap_belowK {k : TypeId} {R : Value → Option (DataW Unit × List MemPlace)} {b n : Nat} {D : DataW Unit} {w w' : World} (h : w.ownsMap Tryz.prog k R b n D) (hB : Below w.heap.size w w') : w'.ownsMap Tryz.prog k R b n D :=
  h.kept (row := none) ⟨hB.os, hB.tape, hB.output, hB.size, fun i hi _ => hB.block i hi⟩ (by simp)
theorem Brd.below {c b : Nat} {came : Int} {P : WN} {w w' : World} (h : Brd c b came P w) (hB : Below w.heap.size w w') : Brd c b came P w' := by
  obtain ⟨D, h1, h2⟩ := h.map
  exact ⟨blkK h.cells hB, ⟨D, ownsMap_belowK h1 hB, h2⟩, h.rise, h.low, h.c0, h.few⟩
theorem none_brd {c b : Nat} {came : Int} {P : WN} {w : World} (h : Brd c b came P w) : Calls Tryz.prog 26 #[.pointer (some ⟨c, 0, none⟩)] w fun e w' => e = .returned (.bool false) ∧ w' = w := by
  have x0 := cell_rowK (k := 0) (v := .bool true) h.cells rfl
  clear h
  go_enter Tryz.func26, Tryz.ntmps26
  go_wp2
  go_ret
  exact ⟨rfl, rfl⟩
/-! WHAT A WATCH WAITS FOR -/
def waitV (x : S57) : Value := if x.f1 = 1 then .iface 197 (.agg #[.string x.f2]) else if x.f1 = 2 then .iface 198 (.agg #[.string x.f2]) else if x.f1 = 3 then .iface 199 (.agg #[.string x.f2]) else if x.f1 = 4 then .iface 200 (.agg #[.string x.f2]) else .nilIface
def kindB (x : S57) : Bool := decide (1 ≤ x.f1 ∧ x.f1 ≤ 4)
theorem waits_calls (x : S57) (w : World) : Calls Tryz.prog 50 #[.agg (encW x).toArray] w fun e w' => e = .returned (.tuple #[waitV x, .bool (kindB x)]) ∧ Below w.heap.size w w' := by
  obtain ⟨a, k, p⟩ := x
  have hB : Below w.heap.size w (w.alloc (.cells #[.int .i64 a, .int .i8 k, .string p] 57)) := below_alloc (Below.refl _ _) _
  have HB := Lib.hid hB
  clear hB
  by_cases h1 : k = 1
  · subst h1
    go_enter Tryz.func50, Tryz.ntmps50
    go_wp2
    go_ret2
    exact ⟨rfl, HB.out⟩
  have q1 : (k == 1) = false := beq_eq_false_iff_ne.2 h1
  by_cases h2 : k = 2
  · subst h2
    go_enter Tryz.func50, Tryz.ntmps50
    go_wp2
    go_ret2
    exact ⟨rfl, HB.out⟩
  have q2 : (k == 2) = false := beq_eq_false_iff_ne.2 h2
  by_cases h3 : k = 3
  · subst h3
    go_enter Tryz.func50, Tryz.ntmps50
    go_wp2
    go_ret2
    exact ⟨rfl, HB.out⟩
  have q3 : (k == 3) = false := beq_eq_false_iff_ne.2 h3
  by_cases h4 : k = 4
  · subst h4
    go_enter Tryz.func50, Tryz.ntmps50
    go_wp2
    go_ret2
    exact ⟨rfl, HB.out⟩
  have q4 : (k == 4) = false := beq_eq_false_iff_ne.2 h4
  have HV : Hid (waitV ⟨a, k, p⟩ = .nilIface ∧ kindB ⟨a, k, p⟩ = false) := Lib.hid ⟨by unfold waitV; simp only; rw [if_neg h1, if_neg h2, if_neg h3, if_neg h4], decide_eq_false (by simp only; omega)⟩
  go_enter Tryz.func50, Tryz.ntmps50
  go_wp2
  go_ret2
  exact ⟨by rw [HV.out.1, HV.out.2]; rfl, HB.out⟩
/-! IS IT A PATH? -/
def isPathB (p : ByteArray) : Bool := (checkP p).2 == 0
theorem isPath_calls (p : ByteArray) (w : World) (hs : p.size ≤ 2147483648) (hT : Tabs w) : Calls Tryz.prog 51 #[.string p] w fun e w' => e = .returned (.bool (isPathB p)) ∧ Below w.heap.size w w' := by
  have K := Lib.hid (check_calls p w hs hT)
  obtain ⟨y, hy⟩ : ∃ x, (checkP p).2 = x := ⟨_, rfl⟩
  obtain ⟨x, hx⟩ : ∃ x, (checkP p).1 = x := ⟨_, rfl⟩
  have HP : Hid (isPathB p = ((y : Int) == 0)) := Lib.hid (by unfold isPathB; rw [hy, Bool.eq_iff_iff, beq_iff_eq, beq_iff_eq]; omega)
  rw [hx, hy] at K
  clear hx hy hT
  go_enter Tryz.func51, Tryz.ntmps51
  go_wp2_with fail
  refine K.out.mono ?_
  rintro e w1 ⟨rfl, hB⟩
  have HB := Lib.hid hB
  clear hB K
  go_wp2
  go_ret
  exact ⟨by rw [HP.out]; rfl, HB.out⟩
/-! A NEW BOARD -/
theorem newB_calls (w : World) : Calls Tryz.prog 6 #[] w fun e w' => ∃ c b, e = .returned (.pointer (some ⟨c, 0, none⟩)) ∧ Brd c b 0 [] w' ∧ Below w.heap.size w w' ∧ w.heap.size ≤ b ∧ w.heap.size ≤ c := by
  have hmm := @run_makeMap Tryz.prog
  go_enter Tryz.func6, Tryz.ntmps6
  go_wp2
  go_ret
  refine ⟨w.heap.size + 1, w.heap.size, rfl, ⟨?_, ⟨.map [], ?_, MapOf.empty⟩, List.Pairwise.nil, fun p h => (by cases h), by omega, by simp⟩, ?_, by omega, by omega⟩
  · have := World.alloc_heap_new (w.alloc (.map #[] 0)) (.cells #[.bool true, .map (some w.heap.size), .int .i64 0] 80)
    rw [World.size_alloc] at this
    exact this
  · exact (World.ownsMap_made (H := Unit) w Tryz.prog 57 (plainElem Tryz.prog 3)).alloc _
  · exact below_alloc (below_alloc (Below.refl _ w) _) _
end Go.Proofs.YtkhnjckkjdldbaaGreatDoor.Q
