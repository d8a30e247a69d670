import Derived.Test.YtbcijdgpaglbnaaR
namespace Go.Proofs.Ytbcijdgpaglbnaa.Q
open Go.RowKit Go.Shelf Go.Proofs.YtbcijdgpaglbnaaW.PrintWords Go.Deep Go.Sort
set_option linter.unusedVariables false
set_option linter.unusedSimpArgs false
attribute [local go_sem] Oper.semAt_some

theorem own_at {W : World} {b e n c : Nat} {a : Option Addr} {xs : List Value} (h : W.ownsRow b e 1 (.slice a n c) n xs) (i : Nat) (hi : i < n) (u : Value) (hu : xs[i]? = some u) : ∃ g, a = some ⟨g, 0, none⟩ ∧ W.cell? ⟨g, i, none⟩ = some u ∧ W.frozen? ⟨g, i, none⟩ = false := by
  rcases h.2 with ⟨h', h0⟩ | ⟨g, cap, cur, h', r⟩
  · omega
  · have e1 : a = some ⟨g, 0, none⟩ := by injection h'
    have e2 : c = cap := by injection h'
    subst e1 e2
    exact ⟨g, rfl, (World.ownsRow.cellAt h i (by omega)).trans hu, World.ownsRow.frozenAt h i⟩
theorem own_rd {W : World} {b c : Nat} {a : Option Addr} {X : List Nat} (h : W.ownsRow b 5 1 (.slice a X.length c) X.length (bytesV X)) (hl : X.length ≤ 1099511627776) :
    RdB W a X ∧ X.length ≤ c ∧ (∀ a', a = some a' → a'.block < W.heap.size ∧ a'.spot = none) ∧ (a = none → c = 0) ∧ (0 < c → ∃ g, a = some ⟨g, 0, none⟩) := by
  rcases h.2 with ⟨h', h0⟩ | ⟨g, cap, cur, h', h1, h2, h3, r⟩
  · have e1 : a = none := by injection h'
    have e2 : c = 0 := by injection h'
    subst e1 e2
    exact ⟨⟨by omega, fun h => by omega⟩, by omega, fun _ h => (by cases h), fun _ => rfl, fun h => by omega⟩
  · have e1 : a = some ⟨g, 0, none⟩ := by injection h'
    have e2 : c = cap := by injection h'
    subst e1 e2
    refine ⟨⟨by omega, fun hp => ⟨g, 0, rfl, fun i hi => ?_⟩⟩, h3, fun a' h => ?_, fun h => (by cases h), fun _ => ⟨g, rfl⟩⟩
    · rw [Nat.zero_add, World.ownsRow.cellAt h i (by omega)]
      simp [bytesV, hi, List.getD_eq_getElem?_getD]
    · obtain rfl := Option.some.inj h
      exact ⟨(Array.getElem?_eq_some_iff.1 h2).1, rfl⟩
theorem RdB.take {W : World} {a : Option Addr} {X : List Nat} (h : RdB W a X) (m : Nat) : RdB W a (X.take m) :=
  ⟨by rw [List.length_take]; have := h.1; omega, fun hp => by
    rw [List.length_take] at hp
    obtain ⟨b, o, e, hc⟩ := h.2 (by omega)
    refine ⟨b, o, e, fun i hi => ?_⟩
    rw [List.length_take] at hi
    rw [hc i (by omega)]
    simp [List.getD_eq_getElem?_getD, List.getElem?_take, show i < m by omega]⟩
def sizes (Ms : List (List Nat)) (k : Nat) : Nat := (Ms.getD k []).length
/-- what joined answers, as it is read -/
structure JI (w W : World) (Ms : List (List Nat)) (X : List Nat) (va vl vp : Value) (g : Nat → Option Addr × Nat) : Prop where
  a : W.ownsRow w.heap.size 5 1 va X.length (bytesV X)
  l : W.ownsRow w.heap.size 25 1 vl Ms.length ((List.range Ms.length).map (fun i => Value.slice (g i).1 (sizes Ms i) (g i).2))
  p : W.ownsRow w.heap.size 3 1 vp Ms.length ((List.range Ms.length).map (fun i => Value.int .i64 (pos Ms i : Nat)))
  r : ∀ i, i < Ms.length → RdB W (g i).1 (Ms.getD i [])
  b : Below w.heap.size w W
theorem JI.below {w W W' : World} {Ms : List (List Nat)} {X : List Nat} {va vl vp : Value} {g : Nat → Option Addr × Nat} (h : JI w W Ms X va vl vp g) (hB : Below W.heap.size W W') : JI w W' Ms X va vl vp g :=
  ⟨own_then h.a hB, own_then h.l hB, own_then h.p hB, fun i hi => (h.r i hi).below hB, below_then h.b h.b.size hB⟩
theorem JI.of {w W : World} {A : Option Addr} {Ls : List (List Nat)} {f : Nat → Option Addr × Nat} {va vl vp : Value} (hr : RdBs w A Ls f)
    (h : Three w W va (joinTo Ls Ls.length) vl (rowOf Ls f (kept Ls Ls.length)) vp (startsTo Ls Ls.length)) :
    JI w W (bodiesTo Ls Ls.length) (joinL (bodiesTo Ls Ls.length)) va vl vp (fun i => f ((kept Ls Ls.length).getD i 0)) where
  a := h.a
  l := by
    have := h.l
    have e : rowOf Ls f (kept Ls Ls.length) = (List.range (bodiesTo Ls Ls.length).length).map (fun i => Value.slice (f ((kept Ls Ls.length).getD i 0)).1 (sizes (bodiesTo Ls Ls.length) i) (f ((kept Ls Ls.length).getD i 0)).2) := by
      apply List.ext_getElem?
      intro i
      rw [bodiesTo_length]
      by_cases hi : i < (kept Ls Ls.length).length
      · have hg := bodiesTo_getD Ls Ls.length i hi
        rw [List.getElem?_map, List.getElem?_range hi]
        simp only [Option.map_some, sizes, hg]
        simp [rowOf, hi, List.getD_eq_getElem?_getD]
      · rw [List.getElem?_eq_none (by simp [rowOf]; omega), List.getElem?_eq_none (by simp; omega)]
    rw [e] at this
    simpa using this
  p := by
    have := h.p
    have e : intsV (startsTo Ls Ls.length) = (List.range (bodiesTo Ls Ls.length).length).map (fun i => Value.int .i64 (pos (bodiesTo Ls Ls.length) i : Nat)) := by
      apply List.ext_getElem?
      intro i
      rw [bodiesTo_length]
      have hs := starts_length Ls Ls.length
      by_cases hi : i < (kept Ls Ls.length).length
      · have hg := starts_at Ls Ls.length i hi
        rw [List.getElem?_map, List.getElem?_range hi]
        simp only [Option.map_some, ← hg]
        simp [intsV, hi, List.getD_eq_getElem?_getD, show i < (startsTo Ls Ls.length).length by omega]
      · rw [List.getElem?_eq_none (by simp [intsV]; omega), List.getElem?_eq_none (by simp; omega)]
    rw [e, starts_length, ← bodiesTo_length] at this
    exact this
  r := fun i hi => by
    rw [bodiesTo_length] at hi
    rw [bodiesTo_getD Ls Ls.length i hi]
    have hlt := kept_lt Ls Ls.length i hi
    obtain ⟨b, o, e, hc⟩ := hr.2 (by omega)
    exact (hc _ hlt).2.below h.b
  b := h.b
theorem JI.pcell {w W : World} {Ms : List (List Nat)} {X : List Nat} {va vl : Value} {ap : Option Addr} {cp : Nat} {g : Nat → Option Addr × Nat} (h : JI w W Ms X va vl (.slice ap Ms.length cp) g) (i : Nat) (hi : i < Ms.length) :
    ∃ b, ap = some ⟨b, 0, none⟩ ∧ W.cell? ⟨b, i, none⟩ = some (.int .i64 (pos Ms i : Nat)) := by
  obtain ⟨b, e, hc, _⟩ := own_at h.p i hi (.int .i64 (pos Ms i : Nat)) (by simp [hi])
  exact ⟨b, e, hc⟩
theorem JI.lcell {w W : World} {Ms : List (List Nat)} {X : List Nat} {va vp : Value} {al : Option Addr} {cl : Nat} {g : Nat → Option Addr × Nat} (h : JI w W Ms X va (.slice al Ms.length cl) vp g) (i : Nat) (hi : i < Ms.length) :
    ∃ b, al = some ⟨b, 0, none⟩ ∧ W.cell? ⟨b, i, none⟩ = some (.slice (g i).1 (sizes Ms i) (g i).2) := by
  obtain ⟨b, e, hc, _⟩ := own_at h.l i hi (.slice (g i).1 (sizes Ms i) (g i).2) (by simp [hi])
  exact ⟨b, e, hc⟩
/-- what joined answers -/
theorem joined_ji (A : Option Addr) (c : Nat) (Ls : List (List Nat)) (f : Nat → Option Addr × Nat) (w : World) (hr : RdBs w A Ls f) (hb : ∀ i, Bytes (Ls.getD i [])) (ht : total Ls Ls.length ≤ 1073741823) :
    ∃ (Ms : List (List Nat)) (X : List Nat), X = joinL Ms ∧ okL Ms ∧ (∀ i, Bytes (Ms.getD i [])) ∧ X.length ≤ 1073741823 ∧ Ms.length ≤ 1073741823 ∧ Calls Try.prog 8 #[.slice A Ls.length c] w fun e W =>
      ∃ g aa ca al cl ap cp, e = .returned (.tuple #[.slice aa X.length ca, .slice al Ms.length cl, .slice ap Ms.length cp, .bool true]) ∧ JI w W Ms X (.slice aa X.length ca) (.slice al Ms.length cl) (.slice ap Ms.length cp) g := by
  refine ⟨bodiesTo Ls Ls.length, joinL (bodiesTo Ls Ls.length), rfl, bodies_ok Ls _, bodies_bytes Ls hb _, Nat.le_trans (joinTo_le Ls Ls.length) ht, ?_, (joined_calls A c Ls f w hr hb ht).mono ?_⟩
  · have := kept_le Ls Ls.length
    have := total_mono Ls (Nat.zero_le Ls.length)
    rw [bodiesTo_length]; omega
  · rintro e W ⟨va, vl, vp, rfl, h⟩
    have hj := JI.of hr h
    obtain ⟨aa, ca, rfl⟩ := own_form hj.a
    obtain ⟨al, cl, rfl⟩ := own_form hj.l
    obtain ⟨ap, cp, rfl⟩ := own_form hj.p
    exact ⟨_, aa, ca, al, cl, ap, cp, rfl, hj⟩
end Go.Proofs.Ytbcijdgpaglbnaa.Q
