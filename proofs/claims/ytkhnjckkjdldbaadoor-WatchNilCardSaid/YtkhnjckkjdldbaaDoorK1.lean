import Derived.Test.YtkhnjckkjdldbaaDoorPr8
import Derived.WalkKit
import Derived.Maps.OwnSet
import Derived.Maps.RangeWalk
import Derived.Maps.Views
import Derived.DeepKeys4
import Derived.MapViews
namespace Go.Proofs.YtkhnjckkjdldbaaDoor.Q
open Go.RowKit Go.Proofs.YtkhnjckkjdldbaaDoorW.PrintWords Go.Deep Go.Maps Go.WideShapes
open Go.Proofs.YtkhnjckkjdldbaaDoor.Pr (S30)
set_option linter.unusedVariables false
set_option linter.unusedSimpArgs false
/-! A WATCH AS A MAP'S KEY -/
theorem laidAll : laidOutB Tryd.prog = true := by kernel_rfl
theorem watch_key : Tryd.prog.keyTypeAt 3 30 = true := by kernel_rfl
theorem watch_keyed : Keyed Tryd.prog 30 := Keyed.of_law (deep_law_laid laidAll (m := 3) (by omega) (of_decide_eq_true (by kernel_rfl)) watch_key (by kernel_rfl))
def wfW (x : S30) : Prop := (Lit.int .i64 x.f0).wf = true ∧ (Lit.int .i8 x.f1).wf = true ∧ x.f2.size ≤ maxLen
abbrev encW (x : S30) : List Value := [.int .i64 x.f0, .int .i8 x.f1, .string x.f2]
def keyL (x : S30) : Lit := .string (keyBytes [.int .i64 x.f0, .int .i8 x.f1, .string x.f2.data.toList])
theorem keyL_key (x : S30) : WideAt.IsKeyLit (keyL x) := by unfold keyL; trivial
theorem watch_fields : ∃ fs, Tryd.prog.underlying 30 = some (.struct fs) ∧ fs.toList.map (fun f => (f.type, f.offset)) = [(2, 0), (28, 1), (9, 2)] ∧ fs.all (·.name != "_") = true := ⟨_, Tryd.underlying30, by kernel_rfl, by kernel_rfl⟩
set_option maxRecDepth 100000 in
theorem litsOf (d : Nat) (cs : List Value) (l : List Lit) : Tryd.prog.keyLits (d + 2) 30 cs = some l ↔ ∃ a b s, cs = [.int .i64 a, .int .i8 b, .string s] ∧ (Lit.int .i64 a).wf = true ∧ (Lit.int .i8 b).wf = true ∧ s.size ≤ maxLen ∧ l = [.int .i64 a, .int .i8 b, .string s.data.toList] := by
  obtain ⟨fs, h1, h2, h3⟩ := watch_fields
  have c0 : Tryd.prog.cellsOf 30 = 3 := by kernel_rfl
  have c1 : Tryd.prog.cellsOf 2 = 1 := by kernel_rfl
  have c2 : Tryd.prog.cellsOf 28 = 1 := by kernel_rfl
  have c3 : Tryd.prog.cellsOf 9 = 1 := by kernel_rfl
  obtain ⟨f0, f1, f2, hf, t0, o0, t1, o1, t2, o2⟩ : ∃ f0 f1 f2, fs.toList = [f0, f1, f2] ∧ f0.type = 2 ∧ f0.offset = 0 ∧ f1.type = 28 ∧ f1.offset = 1 ∧ f2.type = 9 ∧ f2.offset = 2 := by
    have hl : fs.toList.length = 3 := by have := congrArg List.length h2; simpa using this
    match hh : fs.toList, hl with
    | [f0, f1, f2], _ =>
      rw [hh] at h2
      simp only [List.map_cons, List.map_nil, List.cons.injEq, Prod.mk.injEq, and_true] at h2
      exact ⟨f0, f1, f2, rfl, h2.1.1, h2.1.2, h2.2.1.1, h2.2.1.2, h2.2.2.1, h2.2.2.2⟩
  have k0 : ∀ c : Value, Tryd.prog.keyLits (d + 1) 2 [c] = match c with | .int .i64 n => if (Lit.int .i64 n).wf = true then some [.int .i64 n] else none | _ => none := fun c => by
    unfold Program.keyLits
    rw [Tryd.underlying2]
    cases c with
    | int q n => cases q <;> simp
    | _ => rfl
  have k1 : ∀ c : Value, Tryd.prog.keyLits (d + 1) 28 [c] = match c with | .int .i8 n => if (Lit.int .i8 n).wf = true then some [.int .i8 n] else none | _ => none := fun c => by
    unfold Program.keyLits
    rw [Tryd.underlying28]
    cases c with
    | int q n => cases q <;> simp
    | _ => rfl
  have k2 : ∀ c : Value, Tryd.prog.keyLits (d + 1) 9 [c] = match c with | .string s => if s.size ≤ maxLen then some [.string s.data.toList] else none | _ => none := fun c => by
    unfold Program.keyLits
    rw [Tryd.underlying9]
    cases c <;> rfl
  rw [show d + 2 = (d + 1) + 1 from rfl]
  unfold Program.keyLits
  rw [h1]
  simp only [c0, h3, and_true]
  constructor
  · intro h
    split at h
    · rename_i hl
      match cs, hl with
      | [x0, x1, x2], _ =>
        simp only [hf, List.mapM_cons, List.mapM_nil, t0, o0, t1, o1, t2, o2, c1, c2, c3, List.drop_zero, List.drop_succ_cons, List.take_succ_cons, List.take_zero, k0, k1, k2] at h
        cases x0 with
        | int q0 n0 =>
          cases q0 <;> try (simp at h; done)
          cases x1 with
          | int q1 n1 =>
            cases q1 <;> try (simp at h; done)
            cases x2 with
            | string s =>
              by_cases w0 : (Lit.int .i64 n0).wf = true
              · by_cases w1 : (Lit.int .i8 n1).wf = true
                · by_cases w2 : s.size ≤ maxLen
                  · simp [w0, w1, w2] at h
                    exact ⟨n0, n1, s, rfl, w0, w1, w2, h.symm⟩
                  · simp [w0, w1, w2] at h
                · simp [w0, w1] at h
              · simp [w0] at h
            | _ => simp at h
          | _ => simp at h
        | _ => simp at h
    · cases h
  · rintro ⟨a, b, s, rfl, w0, w1, w2, rfl⟩
    rw [if_pos (by rfl)]
    simp only [hf, List.mapM_cons, List.mapM_nil, t0, o0, t1, o1, t2, o2, c1, c2, c3, List.drop_zero, List.drop_succ_cons, List.take_succ_cons, List.take_zero, k0, k1, k2, w0, w1, w2, if_true]
    rfl
theorem types_two : ∃ d, Tryd.prog.types.size + 1 = d + 2 := ⟨Tryd.prog.types.size - 1, by have : 1 ≤ Tryd.prog.types.size := of_decide_eq_true (by kernel_rfl); omega⟩
theorem keyOf_unfold (v : Value) : keyOf Tryd.prog 30 v = if v.formed Tryd.prog 30 then (Tryd.prog.keyLits (Tryd.prog.types.size + 1) 30 v.cells.toList).map fun ls => .string (keyBytes ls) else none := by
  obtain ⟨fs, h1, _⟩ := watch_fields
  have hk : Tryd.prog.keyType 30 = true := by kernel_rfl
  unfold keyOf
  rw [h1, hk]
  simp
theorem keyOf_watch {x : S30} (hx : wfW x) : keyOf Tryd.prog 30 (.agg (encW x).toArray) = some (keyL x) := by
  obtain ⟨d, hd⟩ := types_two
  rw [keyOf_unfold, hd, if_pos (by kernel_rfl)]
  have hc : (Value.agg (encW x).toArray).cells.toList = [.int .i64 x.f0, .int .i8 x.f1, .string x.f2] := rfl
  rw [hc, (litsOf d _ _).2 ⟨x.f0, x.f1, x.f2, rfl, hx.1, hx.2.1, hx.2.2, rfl⟩]
  rfl
theorem keyOf_watch_inv {v : Value} {l : Lit} (h : keyOf Tryd.prog 30 v = some l) : ∃ x, wfW x ∧ v = .agg (encW x).toArray ∧ l = keyL x := by
  obtain ⟨d, hd⟩ := types_two
  rw [keyOf_unfold, hd] at h
  split at h
  · rename_i hf
    obtain ⟨ls, h1, h2⟩ := Option.map_eq_some_iff.1 h
    obtain ⟨a, b, s, hc, w0, w1, w2, rfl⟩ := (litsOf d _ _).1 h1
    obtain ⟨fs, hu, _⟩ := watch_fields
    cases v with
    | agg cs =>
      refine ⟨⟨a, b, s⟩, ⟨w0, w1, w2⟩, ?_, h2.symm⟩
      have : cs.toList = [.int .i64 a, .int .i8 b, .string s] := hc
      have : cs = [.int .i64 a, .int .i8 b, .string s].toArray := by rw [← this]
      rw [this]
    | _ => simp [Value.formed, hu] at hf
  · cases h
theorem keyL_inj {x y : S30} (hx : wfW x) (hy : wfW y) (h : keyL x = keyL y) : x = y := by
  have h1 := watch_keyed.inj (keyOf_watch hx) (h ▸ keyOf_watch hy)
  obtain ⟨a, b, s⟩ := x
  obtain ⟨a', b', s'⟩ := y
  simp at h1
  obtain ⟨rfl, rfl, rfl⟩ := h1
  rfl
/-! A MAP FROM WATCHES TO NUMBERS -/
abbrev WN := List (S30 × Int)
structure MapOf (D : DataW Unit) (P : WN) : Prop where
  tidy : Tidy D
  wf : ∀ p ∈ P, wfW p.1
  has : ∀ k, Maps.has D k = true ↔ ∃ p ∈ P, keyL p.1 = k
  at_ : ∀ p ∈ P, ∀ z, D.atKey (keyL p.1) z = .lit (.int .i64 p.2)
  nodup : P.Pairwise (fun p q => p.1 ≠ q.1)
  size : Maps.size D = P.length
theorem MapOf.empty : MapOf (.map []) [] where
  tidy := tidy_empty
  wf := fun p h => (by cases h)
  has := fun k => by simp [Maps.has]
  at_ := fun p h => (by cases h)
  nodup := List.Pairwise.nil
  size := rfl
theorem MapOf.has_key {D : DataW Unit} {P : WN} (h : MapOf D P) {x : S30} (hx : wfW x) : Maps.has D (keyL x) = true ↔ ∃ n, (x, n) ∈ P := by
  rw [h.has]
  constructor
  · rintro ⟨⟨y, n⟩, h1, h2⟩
    exact ⟨n, by rw [← keyL_inj (h.wf _ h1) hx h2]; exact h1⟩
  · rintro ⟨n, h1⟩
    exact ⟨(x, n), h1, rfl⟩
theorem MapOf.no_key {D : DataW Unit} {P : WN} (h : MapOf D P) {x : S30} (hx : wfW x) (hn : ∀ n, (x, n) ∉ P) : Maps.has D (keyL x) = false := by
  cases e : Maps.has D (keyL x) with
  | false => rfl
  | true => obtain ⟨n, h1⟩ := (h.has_key hx).1 e; exact absurd h1 (hn n)
theorem MapOf.put {D : DataW Unit} {P : WN} (h : MapOf D P) {x : S30} (hx : wfW x) (hn : ∀ n, (x, n) ∉ P) (m : Int) : MapOf (D.put (keyL x) (.lit (.int .i64 m))) (P ++ [(x, m)]) := by
  have hne : ∀ p ∈ P, keyL p.1 ≠ keyL x := fun p hp e => hn p.2 (by rw [← keyL_inj (h.wf _ hp) hx e]; exact hp)
  refine ⟨h.tidy.put (keyL_key x) _, fun p hp => ?_, fun k => ?_, fun p hp z => ?_, ?_, ?_⟩
  · rcases List.mem_append.1 hp with hp | hp
    · exact h.wf p hp
    · rw [List.mem_singleton.1 hp]; exact hx
  · by_cases e : k = keyL x
    · subst e
      exact ⟨fun _ => ⟨(x, m), by simp, rfl⟩, fun _ => has_put_same h.tidy.isMap (keyL_key x) _⟩
    · rw [has_put_other e, h.has]
      constructor
      · rintro ⟨p, hp, h2⟩; exact ⟨p, List.mem_append_left _ hp, h2⟩
      · rintro ⟨p, hp, h2⟩
        rcases List.mem_append.1 hp with hp | hp
        · exact ⟨p, hp, h2⟩
        · rw [List.mem_singleton.1 hp] at h2; exact absurd h2.symm e
  · rcases List.mem_append.1 hp with hp | hp
    · rw [atKey_put_other (hne p hp)]; exact h.at_ p hp z
    · rw [List.mem_singleton.1 hp, atKey_put_same h.tidy.isMap (keyL_key x)]
  · rw [List.pairwise_append]
    exact ⟨h.nodup, List.pairwise_singleton _ _, fun p hp q hq e => by rw [List.mem_singleton.1 hq] at e; exact hne p hp (by rw [e])⟩
  · rw [size_put h.tidy, h.no_key hx hn, h.size]; simp
theorem MapOf.del {D : DataW Unit} {P : WN} (h : MapOf D P) {x : S30} {n : Int} (hp : (x, n) ∈ P) (keep : S30 × Int → Bool) (hk : ∀ p ∈ P, keep p = true ↔ p.1 ≠ x) : MapOf (D.del (keyL x)) (P.filter keep) := by
  have hx := h.wf _ hp
  have hne : ∀ p ∈ P, p.1 ≠ x → keyL p.1 ≠ keyL x := fun p hp h1 e => h1 (keyL_inj (h.wf _ hp) hx e)
  have hmem : ∀ p, p ∈ P.filter keep ↔ p ∈ P ∧ p.1 ≠ x := fun p => by
    rw [List.mem_filter]
    exact ⟨fun ⟨a, b⟩ => ⟨a, (hk p a).1 b⟩, fun ⟨a, b⟩ => ⟨a, (hk p a).2 b⟩⟩
  refine ⟨h.tidy.del _, fun p hp => h.wf p (((hmem p).1 hp).1), fun k => ?_, fun p hp z => ?_, ?_, ?_⟩
  · by_cases e : k = keyL x
    · subst e
      rw [has_del_same]
      constructor
      · intro h1; cases h1
      · rintro ⟨p, h1, h2⟩; exact absurd h2 (hne p ((hmem p).1 h1).1 ((hmem p).1 h1).2)
    · rw [has_del_other e, h.has]
      constructor
      · rintro ⟨p, h1, h2⟩
        exact ⟨p, (hmem p).2 ⟨h1, fun e2 => e (by rw [← h2, e2])⟩, h2⟩
      · rintro ⟨p, h1, h2⟩; exact ⟨p, ((hmem p).1 h1).1, h2⟩
  · have := (hmem p).1 hp
    rw [atKey_del_other (hne p this.1 this.2)]; exact h.at_ p this.1 z
  · exact h.nodup.filter _
  · have h1 := size_del (k := keyL x) h.tidy
    rw [(h.has_key hx).2 ⟨n, hp⟩, h.size] at h1
    have key : ∀ Q : WN, Q.Pairwise (fun p q => p.1 ≠ q.1) → (∀ p ∈ Q, p ∈ P) → (x, n) ∈ Q → (Q.filter keep).length + 1 = Q.length := by
      intro Q
      induction Q with
      | nil => intro _ _ h; cases h
      | cons q Q ih =>
        intro hq hs hm
        rw [List.pairwise_cons] at hq
        by_cases e : q.1 = x
        · have h2 : keep q = false := by
            cases hc : keep q with
            | false => rfl
            | true => exact absurd e ((hk q (hs q List.mem_cons_self)).1 hc)
          have h3 : Q.filter keep = Q := List.filter_eq_self.2 fun p hp => (hk p (hs p (List.mem_cons_of_mem _ hp))).2 fun e2 => hq.1 p hp (by rw [e, e2])
          rw [List.filter_cons_of_neg (by rw [h2]; simp), h3]; rfl
        · have h2 : keep q = true := (hk q (hs q List.mem_cons_self)).2 e
          rw [List.filter_cons_of_pos h2, List.length_cons, List.length_cons]
          rcases List.mem_cons.1 hm with h | h
          · exact absurd (by rw [← h]) e
          · rw [ih hq.2 (fun p hp => hs p (List.mem_cons_of_mem _ hp)) h]
    have := key P h.nodup (fun p h => h) hp
    simp only [if_true] at h1
    omega
end Go.Proofs.YtkhnjckkjdldbaaDoor.Q
