import Derived.Test.YtkmpbnicofiehaaQ
namespace Go.Proofs.Ytkmpbnicofiehaa.Q
open Go.RowKit Go.Proofs.YtkmpbnicofiehaaW.PrintWords Go.Deep Go.Maps Go.WideShapes
set_option linter.unusedVariables false
set_option linter.unusedSimpArgs false
attribute [local go_sem] Oper.semAt_some

/-! A SESSION ENDS: WORDS -/
theorem has_dels (D : DataW Unit) (l : List Int) (x : Int) : Maps.has (dels D l) (.int .i64 x) = if x ∈ l then false else Maps.has D (.int .i64 x) := by
  induction l generalizing D with
  | nil => simp [dels]
  | cons y l ih =>
    rw [dels, ih]
    by_cases h : x = y
    · subst h; simp [has_del_same]
    · rw [has_del_other (key_ne h)]; simp [h]
theorem look_del (D : DataW Unit) (x y : Int) (h : x ≠ y) : look (D.del (.int .i64 y)) x = look D x := by
  unfold look
  rw [has_del_other (key_ne h), atKey_del_other (key_ne h)]
theorem look_dels (D : DataW Unit) (l : List Int) (x : Int) (h : x ∉ l) : look (dels D l) x = look D x := by
  induction l generalizing D with
  | nil => rfl
  | cons y l ih =>
    rw [List.mem_cons, not_or] at h
    rw [dels, ih _ h.2, look_del _ _ _ h.1]
theorem isMap_dels {D : DataW Unit} (h : IsMap D) (l : List Int) : IsMap (dels D l) := by
  induction l generalizing D with
  | nil => exact h
  | cons y l ih => exact ih (h.del _)
theorem look_none {D : DataW Unit} {x : Int} (h : Maps.has D (.int .i64 x) = false) : look D x = none := by unfold look; rw [h]; rfl
theorem look_empty (x : Int) : look (.map []) x = none := rfl
/-- a session that was begun at a tick: is it told yet? -/
structure Ev (c b s : Nat) (span id t at_ now : Int) (n : Nat) (told : Bool) (D : DataW Unit) (w0 w : World) : Prop where
  clk : Clk c b s now span n D w
  below : Below w0.heap.size w0 w
  cb : w0.heap.size ≤ c ∧ w0.heap.size ≤ b
  lo : 0 ≤ at_ ∧ at_ ≤ now
  yes : told = false → look D id = some (t, roundUp (at_ + t) span) ∧ now < roundUp (at_ + t) span
  no : told = true → Maps.has D (.int .i64 id) = false
  span : 1 ≤ span ∧ span ≤ 1000
  tm : 1 ≤ t ∧ t ≤ 1000
  idw : (Lit.int .i64 id).wf = true
theorem Ev.move {c b s n : Nat} {span id t at_ now : Int} {told : Bool} {D : DataW Unit} {w0 w w' : World} (h : Ev c b s span id t at_ now n told D w0 w) (hB : Below w.heap.size w w') : Ev c b s span id t at_ now n told D w0 w' :=
  ⟨h.clk.below hB, below_step h.below hB, h.cb, h.lo, h.yes, h.no, h.span, h.tm, h.idw⟩
/-- what a tick tells -/
structure Told (span id t at_ now : Int) (told : Bool) (ys : List Int) : Prop where
  sorted : ys.Pairwise (· < ·)
  first : id ∈ ys → told = false ∧ t ≤ now - at_ ∧ now - at_ < t + span
  len : ys.length ≤ 9223372036854775807
theorem ev_tick {c b s n : Nat} {span id t at_ now : Int} {told : Bool} {D : DataW Unit} {w0 w : World} (h : Ev c b s span id t at_ now n told D w0 w) (hn : n ≤ 60) (hnow : now ≤ 100000) :
    Calls Try.prog 9 #[.pointer (some ⟨c, 0, none⟩)] w fun e w' => ∃ (A : Option Addr) (cp : Nat) (ys : List Int), e = .returned (.slice A ys.length cp) ∧ w'.ownsRow w0.heap.size 2 1 (.slice A ys.length cp) ys.length (ints ys) ∧ Told span id t at_ (now + 1) told ys ∧
      Ev c b s span id t at_ (now + 1) n (told || decide (id ∈ ys)) (dels D ys) w0 w' ∧ (decide (roundUp (at_ + t) span ≤ now + 1) = true → (told || decide (id ∈ ys)) = true) := by
  refine (tick_calls h.clk h.span.1 (by have := h.lo; omega) (by omega) (by omega) (Nat.le_refl n) (sort_all n (by omega))).mono ?_
  rintro e w' ⟨v, ys, rfl, hrow, hso, hnd, hmem, hC, hO⟩
  have hr := round_le (tick := at_ + t) h.span.1 (by have := h.lo; have := h.tm; omega)
  obtain ⟨a, cp, rfl, _⟩ := own_sliceN hrow
  have hlt : ys.Pairwise (· < ·) := by
    rw [List.nodup_iff_pairwise_ne] at hnd
    exact (hso.and hnd).imp (fun h => by omega)
  have hlen : ys.length ≤ 9223372036854775807 := by
    rcases hrow.2 with ⟨_, h0⟩ | ⟨g, cap, cur, hv, hb0, hgb, h1, h2, _⟩
    · omega
    · unfold maxLen at h2; omega
  have hid : told = false → (id ∈ ys ↔ roundUp (at_ + t) span ≤ now + 1) := fun hf => by
    rw [hmem, (h.yes hf).1]
    constructor
    · rintro ⟨t', d, h1, h2⟩; cases h1; exact h2
    · intro h2; exact ⟨_, _, rfl, h2⟩
  have hid2 : told = true → id ∉ ys := fun ht hi => by
    obtain ⟨t', d, h1, _⟩ := (hmem id).1 hi
    rw [look_none (h.no ht)] at h1
    cases h1
  refine ⟨a, cp, ys, rfl, own_baseN hrow h.below.size, ⟨hlt, fun hi => ?_, hlen⟩, ⟨hC, hO.from h.below (fun k e => by have := h.cb; have := h.below.size; omega), h.cb, ⟨h.lo.1, by have := h.lo; omega⟩, ?_, ?_, h.span, h.tm, h.idw⟩, ?_⟩
  · cases told with
    | false =>
      have h1 := (hid rfl).1 hi
      have h2 := (h.yes rfl).2
      exact ⟨rfl, by omega, by omega⟩
    | true => exact absurd hi (hid2 rfl)
  · intro hf
    rw [Bool.or_eq_false_iff] at hf
    have hni : id ∉ ys := by simpa using hf.2
    refine ⟨by rw [look_dels _ _ _ hni]; exact (h.yes hf.1).1, ?_⟩
    have hx : ¬ roundUp (at_ + t) span ≤ now + 1 := fun hh => hni ((hid hf.1).2 hh)
    omega
  · intro ht
    rw [has_dels]
    split
    · rfl
    · rename_i hni
      cases told with
      | true => exact h.no rfl
      | false => simp [hni] at ht
  · intro hd
    have hd2 := of_decide_eq_true hd
    cases told with
    | true => rfl
    | false => simp [(hid rfl).2 hd2]
/-- Touch of one that is not there -/
theorem touch_gone {c b s n : Nat} {now span : Int} {D : DataW Unit} {w : World} (id : Int) (h : Clk c b s now span n D w) (h1 : 1 ≤ span) (hi0 : (Lit.int .i64 id).wf = true) (hh : Maps.has D (.int .i64 id) = false) :
    Calls Try.prog 12 #[.pointer (some ⟨c, 0, none⟩), .int .i64 id] w fun e w' => e = .returned (.int .i64 75) ∧ Below w.heap.size w w' := by
  have K1 := Lib.hid (none_clk h h1)
  have x2 := cell_row (k := 2) (v := .map (some b)) h.cells rfl
  obtain ⟨v0, ps0, hlook, hv0⟩ := h.map.look_ok keyed2 Try.underlying44 (zero49 w) lifeR0 (keyOf_int_mk Try.underlying2 hi0)
  obtain ⟨u1, u2, hve, hat, _, _⟩ := lifeR_inv hv0
  subst hve
  have hBa : Below w.heap.size w (w.alloc (.cells #[.int .i32 u1, .int .i64 u2] 49)) := below_alloc (Below.refl _ w) _
  have HC := Lib.hid hBa
  rw [hh] at hlook
  clear h hv0 hat hBa
  go_enter Try.func12, Try.ntmps12
  go_wp2_with fail
  refine K1.out.mono ?_
  rintro e w1 ⟨rfl, rfl⟩
  go_wp2
  go_ret
  exact ⟨rfl, HC.out⟩
/-- Add, of whatever -/
theorem add_any {c b s n : Nat} {now span : Int} {D : DataW Unit} {w : World} (id t : Int) (h : Clk c b s now span n D w) (hM : IsMap D) (h1 : 1 ≤ span) (h2 : span ≤ 1000) (n0 : 0 ≤ now) (n1 : now ≤ 100000) (hn : n < 64) (hi0 : (Lit.int .i64 id).wf = true) :
    Calls Try.prog 10 #[.pointer (some ⟨c, 0, none⟩), .int .i64 id, .int .i32 t] w fun e w' => (∃ r : Int, e = .returned (.int .i64 r)) ∧ (∃ (D' : DataW Unit) (m : Nat), m ≤ n + 1 ∧ IsMap D' ∧ Clk c b s now span m D' w') ∧ Only (fun k => k = b) w w' := by
  by_cases hb : id < 1 ∨ t < 1 ∨ 1000 < t
  · refine (add_bad id t h h1 hb).mono ?_
    rintro e w' ⟨rfl, rfl⟩
    exact ⟨⟨1, rfl⟩, ⟨D, n, by omega, hM, h⟩, Only.refl _ _⟩
  · refine (add_calls id t h h1 h2 n0 (by omega) (by omega) (by omega) (by omega) hn hi0).mono ?_
    rintro e w' ⟨rfl, hC, hO⟩
    exact ⟨⟨0, rfl⟩, ⟨_, n + 1, by omega, hM.put _ _, hC⟩, hO⟩
end Go.Proofs.Ytkmpbnicofiehaa.Q
