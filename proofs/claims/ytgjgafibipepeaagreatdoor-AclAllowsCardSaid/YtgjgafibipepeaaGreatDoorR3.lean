import Derived.Test.YtgjgafibipepeaaGreatDoorR
import Derived.Test.YtgjgafibipepeaaGreatDoorB4
import Derived.Lib.SmallJoins
namespace Go.Proofs.YtgjgafibipepeaaGreatDoor.Q
open Go.RowKit Go.Proofs.YtgjgafibipepeaaGreatDoorW.PrintWords Go.Lib Go.Joins Go.ChangeShapes Go.WideShapes Go.Deep
open Go.Proofs.YtgjgafibipepeaaGreatDoor.Pr (S39 S41 k39 k41)
set_option linter.unusedVariables false
set_option linter.constructorNameAsVariable false
set_option maxRecDepth 100000 in
/-- a case that came in -/
theorem case_opened {H : Type} {enc : TypeId × Value → H} {W : World} {base b0 : Nat} {spare : Nat → Bool} {held : Bool} {r : Reach} {v : Value} {d : DataW H} {p : List MemPlace}
    (hv : Value.okWide Tryz.prog W r b0 69 v) (h : DataW.Trod enc Tryz.prog W base spare held 69 v d p) :
    ∃ (A0 A1 A2 : Option Addr) (c0 c1 c2 : Nat) (l : List S41) (maker who : List S39) (pp : Int) (more : S41) (other : S39),
      v = .agg #[.slice A0 l.length c0, .slice A1 maker.length c1, .int .i8 pp, .slice A2 who.length c2, .int .i8 more.f0, .string more.f1.f0, .string more.f1.f1, .string other.f0, .string other.f1] ∧
      Kd.C k41 W A0 l.length l ∧ l.length ≤ c0 ∧ Kd.C k39 W A1 maker.length maker ∧ maker.length ≤ c1 ∧ Kd.C k39 W A2 who.length who ∧ who.length ≤ c2 ∧
      l.length ≤ 9223372036854775807 ∧ maker.length ≤ 9223372036854775807 ∧ who.length ≤ 9223372036854775807 := by
  have hC : Program.cellsOf Tryz.prog 69 = 9 := by kernel_rfl
  obtain ⟨cs, rfl, hsz⟩ := okWide_struct Tryz.underlying69 hv
  obtain ⟨cl⟩ := cs
  match cl, hsz.trans hC with
  | [c0, c1, c2, c3, c4, c5, c6, c7, c8], _ =>
    obtain ⟨fuel, hf⟩ := h
    obtain ⟨xs, n, _, hx, _, hlen, hg⟩ := DataW.trod_struct Tryz.underlying69 hf
    match xs, hlen with
    | [y0, y1, y2, y3, y4, y5], _ =>
      have g0 : DataW.trod enc Tryz.prog W base spare held n 22 [c0] = some y0 := hg 0 _ rfl
      have g1 : DataW.trod enc Tryz.prog W base spare held n 23 [c1] = some y1 := hg 1 _ rfl
      have g2 : DataW.trod enc Tryz.prog W base spare held n 37 [c2] = some y2 := hg 2 _ rfl
      have g3 : DataW.trod enc Tryz.prog W base spare held n 23 [c3] = some y3 := hg 3 _ rfl
      have g4 : DataW.trod enc Tryz.prog W base spare held n 41 [c4, c5, c6] = some y4 := hg 4 _ rfl
      have g5 : DataW.trod enc Tryz.prog W base spare held n 39 [c7, c8] = some y5 := hg 5 _ rfl
      obtain ⟨A0, k0, l, e0, h01, h02, h03⟩ := open_E g0
      obtain ⟨A1, k1, maker, e1, h11, h12, h13⟩ := open_I g1
      obtain ⟨pp, e2, _⟩ := DataW.trod_int Tryz.underlying37 g2
      obtain ⟨A2, k2, who, e3, h21, h22, h23⟩ := open_I g3
      obtain ⟨more, e4⟩ := entry_cells g4 rfl
      obtain ⟨other, e5⟩ := id_cells g5 rfl
      simp only [List.cons.injEq, and_true] at e2 e4 e5
      obtain ⟨e40, e41, e42⟩ := e4
      obtain ⟨e50, e51⟩ := e5
      subst e0 e1 e2 e3 e40 e41 e42 e50 e51
      exact ⟨A0, A1, A2, k0, k1, k2, l, maker, who, pp, more, other, rfl, h03, h01, h13, h11, h23, h21, h02, h12, h22⟩
end Go.Proofs.YtgjgafibipepeaaGreatDoor.Q
