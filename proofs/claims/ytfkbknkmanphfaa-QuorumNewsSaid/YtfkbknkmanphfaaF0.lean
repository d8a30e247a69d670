import Derived.Test.YtfkbknkmanphfaaE
namespace Go.Proofs.Ytfkbknkmanphfaa.Q
open Go.RowKit Go.Proofs.YtfkbknkmanphfaaW.PrintWords Go.Sort
set_option linter.unusedVariables false
set_option linter.unusedSimpArgs false

theorem run_isAgg_int (P : Program) (e : TypeId) (k : IntKind) (he : P.underlying e = some (.int k)) (w : World) : (isAgg e).run P w = .ok false w := by
  unfold isAgg
  rw [Sem.run_bind, run_underlying he w]
  simp
/-- '==' of two arrays of seven ints -/
theorem run_equalIn_tbl (d : Nat) (f g : Nat → Int) (w : World) :
    (Op.equalIn (d + 2) 64 (.agg (tbl f)) (.agg (tbl g))).run Try.prog w = .ok (f 0 == g 0 && (f 1 == g 1 && (f 2 == g 2 && (f 3 == g 3 && (f 4 == g 4 && (f 5 == g 5 && f 6 == g 6)))))) w := by
  have hu := run_underlying Try.underlying64 w
  have hsz : (sizeOf 3).run Try.prog w = .ok 1 w := by kernel_rfl
  have key : ∀ i, i < 7 → ∀ h : Nat → Int, (part 3 (tbl h) i).run Try.prog w = .ok (.int .i64 (h i)) w := by
    intro i hi h
    unfold part
    rw [Sem.run_bind, run_isAgg_int Try.prog 3 .i64 Try.underlying3 w]
    simp [tbl_get h i hi]
  have k0 := key 0 (by omega)
  have k1 := key 1 (by omega)
  have k2 := key 2 (by omega)
  have k3 := key 3 (by omega)
  have k4 := key 4 (by omega)
  have k5 := key 5 (by omega)
  have k6 := key 6 (by omega)
  clear key
  have hq := fun a b => run_equalIn_int (P := Try.prog) w d 3 .i64 .i64 a b Try.underlying3
  rw [Op.equalIn]
  simp only [Sem.run_bind, hu, Result.andThen_ok, hsz]
  simp only [Std.Legacy.Range.forIn_eq_forIn_range', Std.Legacy.Range.size, Nat.sub_zero, Nat.add_sub_cancel, Nat.div_one, List.range'_succ, List.range'_zero, List.forIn_cons, List.forIn_nil, Nat.mul_one, Nat.zero_mul, Nat.zero_add, Nat.reduceAdd, Sem.run_bind, k0, k1, k2, k3, k4, k5, k6, hq, Result.andThen_ok]
  cases h0 : f 0 == g 0
  · simp [Sem.run_bind]
  simp only [Bool.not_true, Bool.false_eq_true, if_false, Sem.run_pure, Result.andThen_ok, Sem.run_bind, k1, hq, Bool.true_and]
  cases h1 : f 1 == g 1
  · simp [Sem.run_bind]
  simp only [Bool.not_true, Bool.false_eq_true, if_false, Sem.run_pure, Result.andThen_ok, Sem.run_bind, k2, hq, Bool.true_and]
  cases h2 : f 2 == g 2
  · simp [Sem.run_bind]
  simp only [Bool.not_true, Bool.false_eq_true, if_false, Sem.run_pure, Result.andThen_ok, Sem.run_bind, k3, hq, Bool.true_and]
  cases h3 : f 3 == g 3
  · simp [Sem.run_bind]
  simp only [Bool.not_true, Bool.false_eq_true, if_false, Sem.run_pure, Result.andThen_ok, Sem.run_bind, k4, hq, Bool.true_and]
  cases h4 : f 4 == g 4
  · simp [Sem.run_bind]
  simp only [Bool.not_true, Bool.false_eq_true, if_false, Sem.run_pure, Result.andThen_ok, Sem.run_bind, k5, hq, Bool.true_and]
  cases h5 : f 5 == g 5
  · simp [Sem.run_bind]
  simp only [Bool.not_true, Bool.false_eq_true, if_false, Sem.run_pure, Result.andThen_ok, Sem.run_bind, k6, hq, Bool.true_and]
  cases h6 : f 6 == g 6
  · simp [Sem.run_bind]
  simp only [Bool.not_true, Bool.false_eq_true, if_false, Sem.run_pure, Result.andThen_ok, Sem.run_bind, hq, Bool.true_and]
end Go.Proofs.Ytfkbknkmanphfaa.Q
