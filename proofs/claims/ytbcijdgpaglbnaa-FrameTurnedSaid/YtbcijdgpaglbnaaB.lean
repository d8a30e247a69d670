import Derived.Test.YtbcijdgpaglbnaaA
namespace Go.Proofs.Ytbcijdgpaglbnaa.Q
open Go.RowKit Go.Proofs.YtbcijdgpaglbnaaW.PrintWords Go.Deep
set_option linter.unusedVariables false
set_option linter.unusedSimpArgs false

/-! THE COPY -/
theorem splice_all {α : Type} (c xs : List α) (h : xs.length = c.length) : splice c 0 xs = xs := by
  simp [splice, h]
theorem made_toArray (n : Nat) : madeCells #[(Value.int .u8 0)] n = (List.replicate n (Value.int .u8 0)).toArray := by
  apply Array.ext_getElem?
  intro i
  by_cases hi : i < n
  · simp [madeCells, hi, Nat.mod_one]
  · simp [madeCells, hi]
def bytesV (L : List Nat) : List Value := L.map (fun x : Nat => Value.int .u8 (x : Int))
set_option maxHeartbeats 2000000 in
theorem own_calls (A : Option Addr) (c : Nat) (L : List Nat) (w : World) (hr : RdB w A L) (hl : L.length ≤ 1099511627776) :
    Calls Try.prog 19 #[.slice A L.length c] w fun e w' => e = .returned (.slice (some ⟨w.heap.size, 0, none⟩) L.length L.length) ∧ w'.heap[w.heap.size]? = some (.cells (bytesV L).toArray 5 (0, 0)) ∧ Below w.heap.size w w' := by
  have HR := Lib.hid hr.2
  obtain ⟨i0, hi, hz0, hz1, hz2⟩ := info_parts infoB
  have HI := Lib.hid (And.intro hi (And.intro hz0 (And.intro hz1 hz2)))
  clear hr hi hz0 hz1 hz2
  go_enter Try.func19, Try.ntmps19
  go_wp2_with (first
    | (refine wpList_make_row _ rfl _ _ 25 rfl 5 i0 (.int .u8 0) Try.underlying25 HI.out.1 HI.out.2.1 HI.out.2.2.1 rfl .i64 .i64 L.length rfl rfl (by rw [HI.out.2.2.2]; omega) (by omega) ?_)
    | (refine wpList_copy_splice (o := ⟨some 9, _, _, _, _, _⟩) rfl _ _ 25 25 rfl 5 Try.underlying25 (by rw [HI.out.1]; simp [HI.out.2.2.1]) _ _ L.length L.length L.length c rfl rfl w.heap.size 0 (List.replicate L.length (Value.int .u8 0)) 5 (by rw [← made_toArray]; exact heap_alloc_new w _) (bytesV L) (by simp only [bytesV, List.length_map]; exact (Nat.min_self _).symm) ?hp (by simp [bytesV]) (by simp [bytesV, Value.oneCell']) w.heap.size w (below_alloc (Below.refl _ _) _) (Nat.le_refl _) ?_; (case hp => exact fun h => ⟨rfl, by
        obtain ⟨b, o, rfl, hc⟩ := HR.out (by simpa [bytesV] using h)
        refine ⟨_, rfl, fun j v hv => ?_⟩
        have hj : j < L.length := by have := (List.getElem?_eq_some_iff.1 hv).1; simpa [bytesV] using this
        rw [Addr.add_mid, pw_cell_below (below_alloc (Below.refl w.heap.size w) _) (hc j hj), ← hv]
        simp [bytesV, hj, List.getD_eq_getElem?_getD]⟩); intro w2 hb2 hB2))
  go_wp2
  go_ret
  have hs : splice (List.replicate L.length (Value.int .u8 0)) 0 (bytesV L) = bytesV L := splice_all _ _ (by simp [bytesV])
  rw [hs] at hb2
  exact ⟨rfl, hb2.out, hB2⟩
theorem own_rdb {w : World} {g : Nat} {L : List Nat} (h : w.heap[g]? = some (.cells (bytesV L).toArray 5 (0, 0))) (hl : L.length ≤ 9223372036854775807) : RdB w (some ⟨g, 0, none⟩) L :=
  ⟨hl, fun hp => ⟨g, 0, rfl, fun i hi => by
    rw [Nat.zero_add, cell_of_row w g i _ _ _ h]
    simp [bytesV, hi, List.getD_eq_getElem?_getD]⟩⟩

/-! '==' OF FOUR BYTES -/
theorem run_isAgg_int (P : Program) (e : TypeId) (k : IntKind) (he : P.underlying e = some (.int k)) (w : World) : (isAgg e).run P w = .ok false w := by
  unfold isAgg
  rw [Sem.run_bind, run_underlying he w]
  simp
def tab4 (f : Nat → Int) : Array Value := #[.int .u8 (f 0), .int .u8 (f 1), .int .u8 (f 2), .int .u8 (f 3)]
def eq4 (f g : Nat → Int) : Bool := (f 0 == g 0 && (f 1 == g 1 && (f 2 == g 2 && f 3 == g 3)))
theorem run_equalIn_tab4 (d : Nat) (f g : Nat → Int) (w : World) :
    (Op.equalIn (d + 2) 46 (.agg (tab4 f)) (.agg (tab4 g))).run Try.prog w = .ok (eq4 f g) w := by
  have hu := run_underlying Try.underlying46 w
  have hsz : (sizeOf 5).run Try.prog w = .ok 1 w := by kernel_rfl
  have key : ∀ i, i < 4 → ∀ h : Nat → Int, (part 5 (tab4 h) i).run Try.prog w = .ok (.int .u8 (h i)) w := by
    intro i hi h
    unfold part
    rw [Sem.run_bind, run_isAgg_int Try.prog 5 .u8 Try.underlying5 w]
    have : i = 0 ∨ i = 1 ∨ i = 2 ∨ i = 3 := by omega
    rcases this with rfl | rfl | rfl | rfl <;> simp [tab4]
  have k0 := key 0 (by omega)
  have k1 := key 1 (by omega)
  have k2 := key 2 (by omega)
  have k3 := key 3 (by omega)
  clear key
  have hq := fun a b => run_equalIn_int (P := Try.prog) w d 5 .u8 .u8 a b Try.underlying5
  rw [Op.equalIn]
  simp only [Sem.run_bind, hu, Result.andThen_ok, hsz]
  simp only [eq4, Std.Legacy.Range.forIn_eq_forIn_range', Std.Legacy.Range.size, Nat.sub_zero, Nat.add_sub_cancel, Nat.div_one, List.range'_succ, List.range'_zero, List.forIn_cons, List.forIn_nil, Nat.mul_one, Nat.zero_mul, Nat.zero_add, Nat.reduceAdd, Sem.run_bind, k0, k1, k2, k3, hq, Result.andThen_ok]
  cases h0 : f 0 == g 0
  · simp [Sem.run_bind]
  simp only [Bool.not_true, Bool.false_eq_true, if_false, Sem.run_pure, Result.andThen_ok, Sem.run_bind, k1, hq, Bool.true_and]
  cases h1 : f 1 == g 1
  · simp [Sem.run_bind]
  simp only [Bool.not_true, Bool.false_eq_true, if_false, Sem.run_pure, Result.andThen_ok, Sem.run_bind, k2, hq, Bool.true_and]
  cases h2 : f 2 == g 2
  · simp [Sem.run_bind]
  simp only [Bool.not_true, Bool.false_eq_true, if_false, Sem.run_pure, Result.andThen_ok, Sem.run_bind, k3, hq, Bool.true_and]
  cases h3 : f 3 == g 3
  · simp [Sem.run_bind]
  simp only [Bool.not_true, Bool.false_eq_true, if_false, Sem.run_pure, Result.andThen_ok, Sem.run_bind, hq, Bool.true_and]
end Go.Proofs.Ytbcijdgpaglbnaa.Q
