-- PRINTED BY print.sh 35421559b90ae4d0a3588c463048766b98c2df88dd9212a6774a882060cdf62d: not written by this session
import Derived.Test.YteajaakhdnlpeaaProg
import Derived.Below
import Derived.Deep.Draws
import Derived.Deep.AppendLies
import Derived.Maps.AppendAt
import Derived.OwnWalk
import Derived.Laws.BytesArg
import Derived.Laws.MakeOwn
import Derived.Laws.OwnMore
import Derived.Deep.OwnRows
import Derived.Tactics
import Derived.Lib.ConvBytes
import Derived.Laws.Slices
import Derived.WalkKit
import Derived.KernelRfl
import Derived.RowKit3
import Derived.Deep.LoopGhost
import Derived.Deep.QuietTactic
import Derived.BigQuiet
import Derived.WideLaws
import Derived.Deep.DeepCutAuto
import Derived.Deep.CutBlock
import Derived.Deep.RegionHeld3
import Derived.Laws.Rows
import Derived.Lib.AppendStr
import Derived.ArgAppend
import Derived.Laws.IdiomCopy
import Derived.OrdersHeld
import Derived.Laws.BitsLemmas
import Derived.RowKit
import Derived.Test.YteajaakhdnlpeaaWWords
import Derived.Test.YteajaakhdnlpeaaWLast
import Derived.Test.YteajaakhdnlpeaaWTab
import Derived.Test.YteajaakhdnlpeaaWFour
import Derived.Test.YteajaakhdnlpeaaWQPut
import Derived.Test.YteajaakhdnlpeaaWApart
import Derived.Test.YteajaakhdnlpeaaWArr
import Derived.Test.YteajaakhdnlpeaaWZeros
import Derived.Test.YteajaakhdnlpeaaWFoot
import Derived.Test.YteajaakhdnlpeaaWKept
import Derived.Test.YteajaakhdnlpeaaWShare
import Derived.Test.YteajaakhdnlpeaaWN
import Derived.Test.YteajaakhdnlpeaaWFootNe
import Derived.Test.YteajaakhdnlpeaaWAt
import Derived.Test.YteajaakhdnlpeaaWEqStruct
import Derived.Test.YteajaakhdnlpeaaWRepsOne
import Derived.Test.YteajaakhdnlpeaaWInv
import Derived.Test.YteajaakhdnlpeaaWInvWords
import Derived.Test.YteajaakhdnlpeaaWGuard
import Derived.Test.YteajaakhdnlpeaaWNEv
import Derived.Test.YteajaakhdnlpeaaWMore
namespace Go.Proofs.Yteajaakhdnlpeaa.PCacheBehind
open Go.RowKit Go.Proofs.YteajaakhdnlpeaaW.PrintWords Go.Proofs.YteajaakhdnlpeaaW.PrintLast Go.Proofs.YteajaakhdnlpeaaW.PrintMore
attribute [local go_sem] max2_int min2_int max_two min_two max_three min_three max_four min_four   -- for this text's walks alone
set_option linter.unusedVariables false
set_option linter.unusedSimpArgs false



def errW : Option Int → Value
  | none => .nilIface
  | some c => .iface 0 (.int .i64 c)
theorem errW_none : errW none = .nilIface := rfl
theorem errW_some (c : Int) : errW (some c) = .iface 0 (.int .i64 c) := rfl

theorem info3 : (Try.prog.info? 3).map (fun i => (i.zero, i.size, i.bytes)) = some (some (.int .i64 0), 1, 8) := by kernel_rfl
theorem info5 : (Try.prog.info? 5).map (fun i => (i.zero, i.size, i.bytes)) = some (some (.int .u8 0), 1, 1) := by kernel_rfl
theorem info46 : (Try.prog.info? 46).map (fun i => (i.zero, i.size, i.bytes)) = some (some (.agg #[(.int .i8 0), (.string ⟨#[]⟩), (.slice none 0 0), (.slice none 0 0), (.int .i32 0), (.bool false), (.bool false), (.int .i64 0), (.int .i32 0), (.slice none 0 0), (.slice none 0 0)]), 11, 144) := by kernel_rfl
theorem info48 : (Try.prog.info? 48).map (fun i => (i.zero, i.size, i.bytes)) = some (some (.agg #[(.int .u32 0), (.int .u32 0), (.int .i8 0), (.int .u32 0), (.int .i64 0), (.int .i8 0), (.string ⟨#[]⟩), (.slice none 0 0), (.slice none 0 0), (.int .i32 0), (.bool false), (.bool false), (.int .i64 0), (.int .i32 0), (.slice none 0 0), (.slice none 0 0)]), 16, 168) := by kernel_rfl
theorem info117 : (Try.prog.info? 117).map (fun i => (i.zero, i.size, i.bytes)) = some (some (.agg #[(.string ⟨#[]⟩), (.string ⟨#[]⟩)]), 2, 32) := by kernel_rfl
theorem info119 : (Try.prog.info? 119).map (fun i => (i.zero, i.size, i.bytes)) = some (some (.agg #[(.int .i8 0), (.string ⟨#[]⟩), (.string ⟨#[]⟩)]), 3, 40) := by kernel_rfl
-- the values' own types
def rd_L3 (xs : List (List Int)) (i : Int) : (List Int) := xs.getD i.toNat ([] : List Int)
theorem at_L3 {w : World} {A : Option Addr} {n : Nat} {xs : List (List Int)} (h : Kd.C (Kd.slice 5 (Kd.int .u8)) w A n xs) (i : Int) (h0 : 0 ≤ i) (h1 : i < n) : ∃ ad A0 c0, A = some ad ∧ w.cell? (ad.add i.toNat) = some (.slice A0 (rd_L3 xs i).length c0) ∧ (rd_L3 xs i).length ≤ c0 ∧ (Kd.int .u8).C w A0 (rd_L3 xs i).length (rd_L3 xs i) := by
  obtain ⟨ad, c, e, _, hK, hc0⟩ := Kd.C_get h ([] : List Int) i h0 h1
  have hc : ∀ j u, c[j]? = some u → w.cell? (ad.add (i.toNat * 1 + j)) = some u := hc0
  obtain ⟨A0, c0, rfl, l0, g0⟩ := hK
  exact ⟨ad, A0, c0, e, by have hq := hc 0 _ rfl; rwa [Nat.mul_one, Nat.add_zero] at hq, l0, g0⟩

/-! #### struct type 117 -/
structure S117 where
  f0 : ByteArray
  f1 : ByteArray
def z117 : S117 := ⟨(⟨#[]⟩ : ByteArray), (⟨#[]⟩ : ByteArray)⟩
def k117 : Kd S117 := Kd.iso (Kd.pair Kd.string Kd.string) (fun x : S117 => (x.f0, x.f1))
theorem k117_open {w : World} {x : S117} {cs : List Value} (h : k117.K w x cs) : cs = [.string x.f0, .string x.f1] := by
  obtain ⟨_, _, rfl, rfl, rfl⟩ := h
  exact rfl
theorem k117_openM {w : World} {base : Nat} {ok : Nat → Prop} {x : S117} {cs : List Value} (h : k117.M w base ok x cs) : cs = [.string x.f0, .string x.f1] := by
  obtain ⟨_, _, rfl, rfl, rfl⟩ := h
  exact rfl
theorem k117_mk (w : World) (x : S117)  : k117.K w x [.string x.f0, .string x.f1] := ⟨[.string x.f0], [.string x.f1], rfl, rfl, rfl⟩
theorem k117_mkM (w : World) (base : Nat) (ok : Nat → Prop) (x : S117)  : k117.M w base ok x [.string x.f0, .string x.f1] := ⟨[.string x.f0], [.string x.f1], rfl, rfl, rfl⟩
def rd_T117 (xs : List S117) (i : Int) : S117 := xs.getD i.toNat z117
theorem at_T117 {w : World} {A : Option Addr} {n : Nat} {xs : List S117} (h : Kd.C k117 w A n xs) (i : Int) (h0 : 0 ≤ i) (h1 : i < n) : ∃ ad , A = some ad ∧ w.cell? (ad.add (i.toNat * 2)) = some (.string (rd_T117 xs i).f0) ∧ w.cell? ⟨(ad.add (i.toNat * 2)).block, (ad.add (i.toNat * 2)).off + 1, none⟩ = some (.string (rd_T117 xs i).f1) := by
  obtain ⟨ad, c, e, _, hK, hc0⟩ := Kd.C_get h z117 i h0 h1
  have hc : ∀ j u, c[j]? = some u → w.cell? (ad.add (i.toNat * 2 + j)) = some u := hc0
  obtain rfl := k117_open hK
  exact ⟨ad, e, hc 0 _ rfl, by rw [← add_field _ _ 1 (by omega)]; exact hc 1 _ rfl⟩

/-! #### struct type 119 -/
structure S119 where
  f0 : Int
  f1 : S117
def z119 : S119 := ⟨(0 : Int), z117⟩
def k119 : Kd S119 := Kd.iso (Kd.pair (Kd.int .i8) k117) (fun x : S119 => (x.f0, x.f1))
theorem k119_open {w : World} {x : S119} {cs : List Value} (h : k119.K w x cs) : cs = [.int .i8 x.f0, .string x.f1.f0, .string x.f1.f1] := by
  obtain ⟨_, _, rfl, rfl, s1⟩ := h
  obtain rfl := k117_open s1
  exact rfl
theorem k119_openM {w : World} {base : Nat} {ok : Nat → Prop} {x : S119} {cs : List Value} (h : k119.M w base ok x cs) : cs = [.int .i8 x.f0, .string x.f1.f0, .string x.f1.f1] := by
  obtain ⟨_, _, rfl, rfl, s1⟩ := h
  obtain rfl := k117_openM s1
  exact rfl
theorem k119_mk (w : World) (x : S119)  : k119.K w x [.int .i8 x.f0, .string x.f1.f0, .string x.f1.f1] := ⟨[.int .i8 x.f0], [.string x.f1.f0, .string x.f1.f1], rfl, rfl, (k117_mk w x.f1 )⟩
theorem k119_mkM (w : World) (base : Nat) (ok : Nat → Prop) (x : S119)  : k119.M w base ok x [.int .i8 x.f0, .string x.f1.f0, .string x.f1.f1] := ⟨[.int .i8 x.f0], [.string x.f1.f0, .string x.f1.f1], rfl, rfl, (k117_mkM w base ok x.f1 )⟩
def rd_T119 (xs : List S119) (i : Int) : S119 := xs.getD i.toNat z119
theorem at_T119 {w : World} {A : Option Addr} {n : Nat} {xs : List S119} (h : Kd.C k119 w A n xs) (i : Int) (h0 : 0 ≤ i) (h1 : i < n) : ∃ ad , A = some ad ∧ w.cell? (ad.add (i.toNat * 3)) = some (.int .i8 (rd_T119 xs i).f0) ∧ w.cell? ⟨(ad.add (i.toNat * 3)).block, (ad.add (i.toNat * 3)).off + 1, none⟩ = some (.string (rd_T119 xs i).f1.f0) ∧ w.cell? ⟨(ad.add (i.toNat * 3)).block, (ad.add (i.toNat * 3)).off + 2, none⟩ = some (.string (rd_T119 xs i).f1.f1) := by
  obtain ⟨ad, c, e, _, hK, hc0⟩ := Kd.C_get h z119 i h0 h1
  have hc : ∀ j u, c[j]? = some u → w.cell? (ad.add (i.toNat * 3 + j)) = some u := hc0
  obtain rfl := k119_open hK
  exact ⟨ad, e, hc 0 _ rfl, by rw [← add_field _ _ 1 (by omega)]; exact hc 1 _ rfl, by rw [← add_field _ _ 2 (by omega)]; exact hc 2 _ rfl⟩

def rd_L6 (xs : List (List S119)) (i : Int) : (List S119) := xs.getD i.toNat ([] : List S119)
theorem at_L6 {w : World} {A : Option Addr} {n : Nat} {xs : List (List S119)} (h : Kd.C (Kd.slice 119 k119) w A n xs) (i : Int) (h0 : 0 ≤ i) (h1 : i < n) : ∃ ad A0 c0, A = some ad ∧ w.cell? (ad.add i.toNat) = some (.slice A0 (rd_L6 xs i).length c0) ∧ (rd_L6 xs i).length ≤ c0 ∧ k119.C w A0 (rd_L6 xs i).length (rd_L6 xs i) := by
  obtain ⟨ad, c, e, _, hK, hc0⟩ := Kd.C_get h ([] : List S119) i h0 h1
  have hc : ∀ j u, c[j]? = some u → w.cell? (ad.add (i.toNat * 1 + j)) = some u := hc0
  obtain ⟨A0, c0, rfl, l0, g0⟩ := hK
  exact ⟨ad, A0, c0, e, by have hq := hc 0 _ rfl; rwa [Nat.mul_one, Nat.add_zero] at hq, l0, g0⟩

def rd_L10 (xs : List (List S117)) (i : Int) : (List S117) := xs.getD i.toNat ([] : List S117)
theorem at_L10 {w : World} {A : Option Addr} {n : Nat} {xs : List (List S117)} (h : Kd.C (Kd.slice 117 k117) w A n xs) (i : Int) (h0 : 0 ≤ i) (h1 : i < n) : ∃ ad A0 c0, A = some ad ∧ w.cell? (ad.add i.toNat) = some (.slice A0 (rd_L10 xs i).length c0) ∧ (rd_L10 xs i).length ≤ c0 ∧ k117.C w A0 (rd_L10 xs i).length (rd_L10 xs i) := by
  obtain ⟨ad, c, e, _, hK, hc0⟩ := Kd.C_get h ([] : List S117) i h0 h1
  have hc : ∀ j u, c[j]? = some u → w.cell? (ad.add (i.toNat * 1 + j)) = some u := hc0
  obtain ⟨A0, c0, rfl, l0, g0⟩ := hK
  exact ⟨ad, A0, c0, e, by have hq := hc 0 _ rfl; rwa [Nat.mul_one, Nat.add_zero] at hq, l0, g0⟩

/-! #### struct type 46, nested in itself -/
structure S46 where
  f0 : Int
  f1 : ByteArray
  f2 : (List Int)
  f3 : (List S119)
  f4 : Int
  f5 : Bool
  f6 : Bool
  f7 : Int
  f8 : Int
  f9 : (List S117)
  f10 : (List S46)
def z46 : S46 := ⟨(0 : Int), (⟨#[]⟩ : ByteArray), ([] : List Int), ([] : List S119), (0 : Int), false, false, (0 : Int), (0 : Int), ([] : List S117), ([] : List S46)⟩
def F46 (d : Kd S46) : Kd S46 := Kd.iso (Kd.pair (Kd.int .i8) (Kd.pair Kd.string (Kd.pair (Kd.slice 5 (Kd.int .u8)) (Kd.pair (Kd.slice 119 k119) (Kd.pair (Kd.int .i32) (Kd.pair Kd.bool (Kd.pair Kd.bool (Kd.pair (Kd.int .i64) (Kd.pair (Kd.int .i32) (Kd.pair (Kd.slice 117 k117) (Kd.slice 46 d))))))))))) (fun x : S46 => (x.f0, x.f1, x.f2, x.f3, x.f4, x.f5, x.f6, x.f7, x.f8, x.f9, x.f10))
theorem mono46 : Kd.Mono F46 := Kd.mono_iso _ (Kd.mono_pair (Kd.mono_const _) (Kd.mono_pair (Kd.mono_const _) (Kd.mono_pair (Kd.mono_const _) (Kd.mono_pair (Kd.mono_const _) (Kd.mono_pair (Kd.mono_const _) (Kd.mono_pair (Kd.mono_const _) (Kd.mono_pair (Kd.mono_const _) (Kd.mono_pair (Kd.mono_const _) (Kd.mono_pair (Kd.mono_const _) (Kd.mono_pair (Kd.mono_const _) (Kd.mono_slice 46 Kd.mono_id)))))))))))
theorem sub46 : Kd.Sub F46 [5, 46, 117, 119] := Kd.sub_iso _ (Kd.sub_pair (Kd.sub_const _ (by decide)) (Kd.sub_pair (Kd.sub_const _ (by decide)) (Kd.sub_pair (Kd.sub_const _ (by decide)) (Kd.sub_pair (Kd.sub_const _ (by decide)) (Kd.sub_pair (Kd.sub_const _ (by decide)) (Kd.sub_pair (Kd.sub_const _ (by decide)) (Kd.sub_pair (Kd.sub_const _ (by decide)) (Kd.sub_pair (Kd.sub_const _ (by decide)) (Kd.sub_pair (Kd.sub_const _ (by decide)) (Kd.sub_pair (Kd.sub_const _ (by decide)) (Kd.sub_slice 46 (by decide) Kd.sub_id)))))))))))
theorem sz46 : ∀ n, (Kd.upto F46 11 [5, 46, 117, 119] n).sz = 11 := Kd.upto_sz (fun _ => rfl)
def k46 : Kd S46 := Kd.fix F46 11 [5, 46, 117, 119] sz46 (Kd.upto_E sub46)
theorem k46_open {w : World} {x : S46} {cs : List Value} (h : k46.K w x cs) : ∃ A2 c2 A3 c3 A9 c9 A10 c10, cs = [.int .i8 x.f0, .string x.f1, .slice A2 x.f2.length c2, .slice A3 x.f3.length c3, .int .i32 x.f4, .bool x.f5, .bool x.f6, .int .i64 x.f7, .int .i32 x.f8, .slice A9 x.f9.length c9, .slice A10 x.f10.length c10] ∧ x.f2.length ≤ c2 ∧ (Kd.int .u8).C w A2 x.f2.length x.f2 ∧ x.f3.length ≤ c3 ∧ k119.C w A3 x.f3.length x.f3 ∧ x.f9.length ≤ c9 ∧ k117.C w A9 x.f9.length x.f9 ∧ x.f10.length ≤ c10 ∧ k46.C w A10 x.f10.length x.f10 := by
  obtain ⟨n, h⟩ := h
  cases n with
  | zero => exact h.elim
  | succ n =>
    obtain ⟨_, _, rfl, rfl, ⟨_, _, rfl, rfl, ⟨_, _, rfl, ⟨A2, c2, rfl, l2, g2⟩, ⟨_, _, rfl, ⟨A3, c3, rfl, l3, g3⟩, ⟨_, _, rfl, rfl, ⟨_, _, rfl, rfl, ⟨_, _, rfl, rfl, ⟨_, _, rfl, rfl, ⟨_, _, rfl, rfl, ⟨_, _, rfl, ⟨A9, c9, rfl, l9, g9⟩, ⟨A10, c10, rfl, l10, g10⟩⟩⟩⟩⟩⟩⟩⟩⟩⟩⟩ := h
    exact ⟨A2, c2, A3, c3, A9, c9, A10, c10, rfl, l2, g2, l3, g3, l9, g9, l10, Kd.fix_C g10⟩
theorem k46_openM {w : World} {base : Nat} {ok : Nat → Prop} {x : S46} {cs : List Value} (h : k46.M w base ok x cs) : ∃ v2 v3 v9 v10, cs = [.int .i8 x.f0, .string x.f1, v2, v3, .int .i32 x.f4, .bool x.f5, .bool x.f6, .int .i64 x.f7, .int .i32 x.f8, v9, v10] ∧ (Kd.int .u8).R 5 w base ok v2 x.f2 ∧ k119.R 119 w base ok v3 x.f3 ∧ k117.R 117 w base ok v9 x.f9 ∧ k46.R 46 w base ok v10 x.f10 := by
  obtain ⟨n, h⟩ := h
  cases n with
  | zero => exact h.elim
  | succ n =>
    obtain ⟨_, _, rfl, rfl, ⟨_, _, rfl, rfl, ⟨_, _, rfl, ⟨v2, rfl, g2⟩, ⟨_, _, rfl, ⟨v3, rfl, g3⟩, ⟨_, _, rfl, rfl, ⟨_, _, rfl, rfl, ⟨_, _, rfl, rfl, ⟨_, _, rfl, rfl, ⟨_, _, rfl, rfl, ⟨_, _, rfl, ⟨v9, rfl, g9⟩, ⟨v10, rfl, g10⟩⟩⟩⟩⟩⟩⟩⟩⟩⟩⟩ := h
    exact ⟨v2, v3, v9, v10, rfl, g2, g3, g9, Kd.fix_R g10⟩
theorem k46_mk (w : World) (x : S46) {A2 : Option Addr} {c2 : Nat} (l2 : x.f2.length ≤ c2) (g2 : (Kd.int .u8).C w A2 x.f2.length x.f2) {A3 : Option Addr} {c3 : Nat} (l3 : x.f3.length ≤ c3) (g3 : k119.C w A3 x.f3.length x.f3) {A9 : Option Addr} {c9 : Nat} (l9 : x.f9.length ≤ c9) (g9 : k117.C w A9 x.f9.length x.f9) {A10 : Option Addr} {c10 : Nat} (l10 : x.f10.length ≤ c10) (g10 : k46.C w A10 x.f10.length x.f10) : k46.K w x [.int .i8 x.f0, .string x.f1, .slice A2 x.f2.length c2, .slice A3 x.f3.length c3, .int .i32 x.f4, .bool x.f5, .bool x.f6, .int .i64 x.f7, .int .i32 x.f8, .slice A9 x.f9.length c9, .slice A10 x.f10.length c10] := by
  obtain ⟨n10, q10⟩ := Kd.fix_C_back mono46 g10
  have r10 := Kd.upto_C_le mono46 sz46 (show n10 ≤ n10 by omega) q10
  exact ⟨n10 + 1, ⟨[.int .i8 x.f0], [.string x.f1, .slice A2 x.f2.length c2, .slice A3 x.f3.length c3, .int .i32 x.f4, .bool x.f5, .bool x.f6, .int .i64 x.f7, .int .i32 x.f8, .slice A9 x.f9.length c9, .slice A10 x.f10.length c10], rfl, rfl, ⟨[.string x.f1], [.slice A2 x.f2.length c2, .slice A3 x.f3.length c3, .int .i32 x.f4, .bool x.f5, .bool x.f6, .int .i64 x.f7, .int .i32 x.f8, .slice A9 x.f9.length c9, .slice A10 x.f10.length c10], rfl, rfl, ⟨[.slice A2 x.f2.length c2], [.slice A3 x.f3.length c3, .int .i32 x.f4, .bool x.f5, .bool x.f6, .int .i64 x.f7, .int .i32 x.f8, .slice A9 x.f9.length c9, .slice A10 x.f10.length c10], rfl, ⟨A2, c2, rfl, l2, g2⟩, ⟨[.slice A3 x.f3.length c3], [.int .i32 x.f4, .bool x.f5, .bool x.f6, .int .i64 x.f7, .int .i32 x.f8, .slice A9 x.f9.length c9, .slice A10 x.f10.length c10], rfl, ⟨A3, c3, rfl, l3, g3⟩, ⟨[.int .i32 x.f4], [.bool x.f5, .bool x.f6, .int .i64 x.f7, .int .i32 x.f8, .slice A9 x.f9.length c9, .slice A10 x.f10.length c10], rfl, rfl, ⟨[.bool x.f5], [.bool x.f6, .int .i64 x.f7, .int .i32 x.f8, .slice A9 x.f9.length c9, .slice A10 x.f10.length c10], rfl, rfl, ⟨[.bool x.f6], [.int .i64 x.f7, .int .i32 x.f8, .slice A9 x.f9.length c9, .slice A10 x.f10.length c10], rfl, rfl, ⟨[.int .i64 x.f7], [.int .i32 x.f8, .slice A9 x.f9.length c9, .slice A10 x.f10.length c10], rfl, rfl, ⟨[.int .i32 x.f8], [.slice A9 x.f9.length c9, .slice A10 x.f10.length c10], rfl, rfl, ⟨[.slice A9 x.f9.length c9], [.slice A10 x.f10.length c10], rfl, ⟨A9, c9, rfl, l9, g9⟩, ⟨A10, c10, rfl, l10, r10⟩⟩⟩⟩⟩⟩⟩⟩⟩⟩⟩⟩
theorem k46_mkM (w : World) (base : Nat) (ok : Nat → Prop) (x : S46) {v2 : Value} (g2 : (Kd.int .u8).R 5 w base ok v2 x.f2) {v3 : Value} (g3 : k119.R 119 w base ok v3 x.f3) {v9 : Value} (g9 : k117.R 117 w base ok v9 x.f9) {v10 : Value} (g10 : k46.R 46 w base ok v10 x.f10) : k46.M w base ok x [.int .i8 x.f0, .string x.f1, v2, v3, .int .i32 x.f4, .bool x.f5, .bool x.f6, .int .i64 x.f7, .int .i32 x.f8, v9, v10] := by
  obtain ⟨n10, q10⟩ := Kd.fix_R_back mono46 g10
  have r10 := Kd.upto_R_le mono46 sz46 (show n10 ≤ n10 by omega) q10
  exact ⟨n10 + 1, ⟨[.int .i8 x.f0], [.string x.f1, v2, v3, .int .i32 x.f4, .bool x.f5, .bool x.f6, .int .i64 x.f7, .int .i32 x.f8, v9, v10], rfl, rfl, ⟨[.string x.f1], [v2, v3, .int .i32 x.f4, .bool x.f5, .bool x.f6, .int .i64 x.f7, .int .i32 x.f8, v9, v10], rfl, rfl, ⟨[v2], [v3, .int .i32 x.f4, .bool x.f5, .bool x.f6, .int .i64 x.f7, .int .i32 x.f8, v9, v10], rfl, ⟨v2, rfl, g2⟩, ⟨[v3], [.int .i32 x.f4, .bool x.f5, .bool x.f6, .int .i64 x.f7, .int .i32 x.f8, v9, v10], rfl, ⟨v3, rfl, g3⟩, ⟨[.int .i32 x.f4], [.bool x.f5, .bool x.f6, .int .i64 x.f7, .int .i32 x.f8, v9, v10], rfl, rfl, ⟨[.bool x.f5], [.bool x.f6, .int .i64 x.f7, .int .i32 x.f8, v9, v10], rfl, rfl, ⟨[.bool x.f6], [.int .i64 x.f7, .int .i32 x.f8, v9, v10], rfl, rfl, ⟨[.int .i64 x.f7], [.int .i32 x.f8, v9, v10], rfl, rfl, ⟨[.int .i32 x.f8], [v9, v10], rfl, rfl, ⟨[v9], [v10], rfl, ⟨v9, rfl, g9⟩, ⟨v10, rfl, r10⟩⟩⟩⟩⟩⟩⟩⟩⟩⟩⟩⟩
def rd_T46 (xs : List S46) (i : Int) : S46 := xs.getD i.toNat z46
theorem at_T46 {w : World} {A : Option Addr} {n : Nat} {xs : List S46} (h : Kd.C k46 w A n xs) (i : Int) (h0 : 0 ≤ i) (h1 : i < n) : ∃ ad A2 c2 A3 c3 A9 c9 A10 c10, A = some ad ∧ w.cell? (ad.add (i.toNat * 11)) = some (.int .i8 (rd_T46 xs i).f0) ∧ w.cell? ⟨(ad.add (i.toNat * 11)).block, (ad.add (i.toNat * 11)).off + 1, none⟩ = some (.string (rd_T46 xs i).f1) ∧ w.cell? ⟨(ad.add (i.toNat * 11)).block, (ad.add (i.toNat * 11)).off + 2, none⟩ = some (.slice A2 (rd_T46 xs i).f2.length c2) ∧ w.cell? ⟨(ad.add (i.toNat * 11)).block, (ad.add (i.toNat * 11)).off + 3, none⟩ = some (.slice A3 (rd_T46 xs i).f3.length c3) ∧ w.cell? ⟨(ad.add (i.toNat * 11)).block, (ad.add (i.toNat * 11)).off + 4, none⟩ = some (.int .i32 (rd_T46 xs i).f4) ∧ w.cell? ⟨(ad.add (i.toNat * 11)).block, (ad.add (i.toNat * 11)).off + 5, none⟩ = some (.bool (rd_T46 xs i).f5) ∧ w.cell? ⟨(ad.add (i.toNat * 11)).block, (ad.add (i.toNat * 11)).off + 6, none⟩ = some (.bool (rd_T46 xs i).f6) ∧ w.cell? ⟨(ad.add (i.toNat * 11)).block, (ad.add (i.toNat * 11)).off + 7, none⟩ = some (.int .i64 (rd_T46 xs i).f7) ∧ w.cell? ⟨(ad.add (i.toNat * 11)).block, (ad.add (i.toNat * 11)).off + 8, none⟩ = some (.int .i32 (rd_T46 xs i).f8) ∧ w.cell? ⟨(ad.add (i.toNat * 11)).block, (ad.add (i.toNat * 11)).off + 9, none⟩ = some (.slice A9 (rd_T46 xs i).f9.length c9) ∧ w.cell? ⟨(ad.add (i.toNat * 11)).block, (ad.add (i.toNat * 11)).off + 10, none⟩ = some (.slice A10 (rd_T46 xs i).f10.length c10) ∧ (rd_T46 xs i).f2.length ≤ c2 ∧ (Kd.int .u8).C w A2 (rd_T46 xs i).f2.length (rd_T46 xs i).f2 ∧ (rd_T46 xs i).f3.length ≤ c3 ∧ k119.C w A3 (rd_T46 xs i).f3.length (rd_T46 xs i).f3 ∧ (rd_T46 xs i).f9.length ≤ c9 ∧ k117.C w A9 (rd_T46 xs i).f9.length (rd_T46 xs i).f9 ∧ (rd_T46 xs i).f10.length ≤ c10 ∧ k46.C w A10 (rd_T46 xs i).f10.length (rd_T46 xs i).f10 := by
  obtain ⟨ad, c, e, _, hK, hc0⟩ := Kd.C_get h z46 i h0 h1
  have hc : ∀ j u, c[j]? = some u → w.cell? (ad.add (i.toNat * 11 + j)) = some u := hc0
  obtain ⟨A2, c2, A3, c3, A9, c9, A10, c10, rfl, l2, g2, l3, g3, l9, g9, l10, g10⟩ := k46_open hK
  exact ⟨ad, A2, c2, A3, c3, A9, c9, A10, c10, e, hc 0 _ rfl, by rw [← add_field _ _ 1 (by omega)]; exact hc 1 _ rfl, by rw [← add_field _ _ 2 (by omega)]; exact hc 2 _ rfl, by rw [← add_field _ _ 3 (by omega)]; exact hc 3 _ rfl, by rw [← add_field _ _ 4 (by omega)]; exact hc 4 _ rfl, by rw [← add_field _ _ 5 (by omega)]; exact hc 5 _ rfl, by rw [← add_field _ _ 6 (by omega)]; exact hc 6 _ rfl, by rw [← add_field _ _ 7 (by omega)]; exact hc 7 _ rfl, by rw [← add_field _ _ 8 (by omega)]; exact hc 8 _ rfl, by rw [← add_field _ _ 9 (by omega)]; exact hc 9 _ rfl, by rw [← add_field _ _ 10 (by omega)]; exact hc 10 _ rfl, l2, g2, l3, g3, l9, g9, l10, g10⟩

/-! #### struct type 37 -/
structure S37 where
  f0 : Int
  f1 : Int
def z37 : S37 := ⟨(0 : Int), (0 : Int)⟩
def k37 : Kd S37 := Kd.iso (Kd.pair (Kd.int .u32) (Kd.int .u32)) (fun x : S37 => (x.f0, x.f1))
theorem k37_open {w : World} {x : S37} {cs : List Value} (h : k37.K w x cs) : cs = [.int .u32 x.f0, .int .u32 x.f1] := by
  obtain ⟨_, _, rfl, rfl, rfl⟩ := h
  exact rfl
theorem k37_openM {w : World} {base : Nat} {ok : Nat → Prop} {x : S37} {cs : List Value} (h : k37.M w base ok x cs) : cs = [.int .u32 x.f0, .int .u32 x.f1] := by
  obtain ⟨_, _, rfl, rfl, rfl⟩ := h
  exact rfl
theorem k37_mk (w : World) (x : S37)  : k37.K w x [.int .u32 x.f0, .int .u32 x.f1] := ⟨[.int .u32 x.f0], [.int .u32 x.f1], rfl, rfl, rfl⟩
theorem k37_mkM (w : World) (base : Nat) (ok : Nat → Prop) (x : S37)  : k37.M w base ok x [.int .u32 x.f0, .int .u32 x.f1] := ⟨[.int .u32 x.f0], [.int .u32 x.f1], rfl, rfl, rfl⟩
def rd_T37 (xs : List S37) (i : Int) : S37 := xs.getD i.toNat z37
theorem at_T37 {w : World} {A : Option Addr} {n : Nat} {xs : List S37} (h : Kd.C k37 w A n xs) (i : Int) (h0 : 0 ≤ i) (h1 : i < n) : ∃ ad , A = some ad ∧ w.cell? (ad.add (i.toNat * 2)) = some (.int .u32 (rd_T37 xs i).f0) ∧ w.cell? ⟨(ad.add (i.toNat * 2)).block, (ad.add (i.toNat * 2)).off + 1, none⟩ = some (.int .u32 (rd_T37 xs i).f1) := by
  obtain ⟨ad, c, e, _, hK, hc0⟩ := Kd.C_get h z37 i h0 h1
  have hc : ∀ j u, c[j]? = some u → w.cell? (ad.add (i.toNat * 2 + j)) = some u := hc0
  obtain rfl := k37_open hK
  exact ⟨ad, e, hc 0 _ rfl, by rw [← add_field _ _ 1 (by omega)]; exact hc 1 _ rfl⟩

/-! #### struct type 40 -/
structure S40 where
  f0 : Int
  f1 : Int
  f2 : Int
def z40 : S40 := ⟨(0 : Int), (0 : Int), (0 : Int)⟩
def k40 : Kd S40 := Kd.iso (Kd.pair (Kd.int .i8) (Kd.pair (Kd.int .u32) (Kd.int .i64))) (fun x : S40 => (x.f0, x.f1, x.f2))
theorem k40_open {w : World} {x : S40} {cs : List Value} (h : k40.K w x cs) : cs = [.int .i8 x.f0, .int .u32 x.f1, .int .i64 x.f2] := by
  obtain ⟨_, _, rfl, rfl, ⟨_, _, rfl, rfl, rfl⟩⟩ := h
  exact rfl
theorem k40_openM {w : World} {base : Nat} {ok : Nat → Prop} {x : S40} {cs : List Value} (h : k40.M w base ok x cs) : cs = [.int .i8 x.f0, .int .u32 x.f1, .int .i64 x.f2] := by
  obtain ⟨_, _, rfl, rfl, ⟨_, _, rfl, rfl, rfl⟩⟩ := h
  exact rfl
theorem k40_mk (w : World) (x : S40)  : k40.K w x [.int .i8 x.f0, .int .u32 x.f1, .int .i64 x.f2] := ⟨[.int .i8 x.f0], [.int .u32 x.f1, .int .i64 x.f2], rfl, rfl, ⟨[.int .u32 x.f1], [.int .i64 x.f2], rfl, rfl, rfl⟩⟩
theorem k40_mkM (w : World) (base : Nat) (ok : Nat → Prop) (x : S40)  : k40.M w base ok x [.int .i8 x.f0, .int .u32 x.f1, .int .i64 x.f2] := ⟨[.int .i8 x.f0], [.int .u32 x.f1, .int .i64 x.f2], rfl, rfl, ⟨[.int .u32 x.f1], [.int .i64 x.f2], rfl, rfl, rfl⟩⟩
def rd_T40 (xs : List S40) (i : Int) : S40 := xs.getD i.toNat z40
theorem at_T40 {w : World} {A : Option Addr} {n : Nat} {xs : List S40} (h : Kd.C k40 w A n xs) (i : Int) (h0 : 0 ≤ i) (h1 : i < n) : ∃ ad , A = some ad ∧ w.cell? (ad.add (i.toNat * 3)) = some (.int .i8 (rd_T40 xs i).f0) ∧ w.cell? ⟨(ad.add (i.toNat * 3)).block, (ad.add (i.toNat * 3)).off + 1, none⟩ = some (.int .u32 (rd_T40 xs i).f1) ∧ w.cell? ⟨(ad.add (i.toNat * 3)).block, (ad.add (i.toNat * 3)).off + 2, none⟩ = some (.int .i64 (rd_T40 xs i).f2) := by
  obtain ⟨ad, c, e, _, hK, hc0⟩ := Kd.C_get h z40 i h0 h1
  have hc : ∀ j u, c[j]? = some u → w.cell? (ad.add (i.toNat * 3 + j)) = some u := hc0
  obtain rfl := k40_open hK
  exact ⟨ad, e, hc 0 _ rfl, by rw [← add_field _ _ 1 (by omega)]; exact hc 1 _ rfl, by rw [← add_field _ _ 2 (by omega)]; exact hc 2 _ rfl⟩

/-! #### struct type 48 -/
structure S48 where
  f0 : S37
  f1 : S40
  f2 : S46
def z48 : S48 := ⟨z37, z40, z46⟩
def k48 : Kd S48 := Kd.iso (Kd.pair k37 (Kd.pair k40 k46)) (fun x : S48 => (x.f0, x.f1, x.f2))
theorem k48_open {w : World} {x : S48} {cs : List Value} (h : k48.K w x cs) : ∃ A7 c7 A8 c8 A14 c14 A15 c15, cs = [.int .u32 x.f0.f0, .int .u32 x.f0.f1, .int .i8 x.f1.f0, .int .u32 x.f1.f1, .int .i64 x.f1.f2, .int .i8 x.f2.f0, .string x.f2.f1, .slice A7 x.f2.f2.length c7, .slice A8 x.f2.f3.length c8, .int .i32 x.f2.f4, .bool x.f2.f5, .bool x.f2.f6, .int .i64 x.f2.f7, .int .i32 x.f2.f8, .slice A14 x.f2.f9.length c14, .slice A15 x.f2.f10.length c15] ∧ x.f2.f2.length ≤ c7 ∧ (Kd.int .u8).C w A7 x.f2.f2.length x.f2.f2 ∧ x.f2.f3.length ≤ c8 ∧ k119.C w A8 x.f2.f3.length x.f2.f3 ∧ x.f2.f9.length ≤ c14 ∧ k117.C w A14 x.f2.f9.length x.f2.f9 ∧ x.f2.f10.length ≤ c15 ∧ k46.C w A15 x.f2.f10.length x.f2.f10 := by
  obtain ⟨_, _, rfl, s0, ⟨_, _, rfl, s2, s5⟩⟩ := h
  obtain rfl := k37_open s0
  obtain rfl := k40_open s2
  obtain ⟨A7, c7, A8, c8, A14, c14, A15, c15, rfl, l7, g7, l8, g8, l14, g14, l15, g15⟩ := k46_open s5
  exact ⟨A7, c7, A8, c8, A14, c14, A15, c15, rfl, l7, g7, l8, g8, l14, g14, l15, g15⟩
theorem k48_openM {w : World} {base : Nat} {ok : Nat → Prop} {x : S48} {cs : List Value} (h : k48.M w base ok x cs) : ∃ v7 v8 v14 v15, cs = [.int .u32 x.f0.f0, .int .u32 x.f0.f1, .int .i8 x.f1.f0, .int .u32 x.f1.f1, .int .i64 x.f1.f2, .int .i8 x.f2.f0, .string x.f2.f1, v7, v8, .int .i32 x.f2.f4, .bool x.f2.f5, .bool x.f2.f6, .int .i64 x.f2.f7, .int .i32 x.f2.f8, v14, v15] ∧ (Kd.int .u8).R 5 w base ok v7 x.f2.f2 ∧ k119.R 119 w base ok v8 x.f2.f3 ∧ k117.R 117 w base ok v14 x.f2.f9 ∧ k46.R 46 w base ok v15 x.f2.f10 := by
  obtain ⟨_, _, rfl, s0, ⟨_, _, rfl, s2, s5⟩⟩ := h
  obtain rfl := k37_openM s0
  obtain rfl := k40_openM s2
  obtain ⟨v7, v8, v14, v15, rfl, g7, g8, g14, g15⟩ := k46_openM s5
  exact ⟨v7, v8, v14, v15, rfl, g7, g8, g14, g15⟩
theorem k48_mk (w : World) (x : S48) {A7 : Option Addr} {c7 : Nat} (l7 : x.f2.f2.length ≤ c7) (g7 : (Kd.int .u8).C w A7 x.f2.f2.length x.f2.f2) {A8 : Option Addr} {c8 : Nat} (l8 : x.f2.f3.length ≤ c8) (g8 : k119.C w A8 x.f2.f3.length x.f2.f3) {A14 : Option Addr} {c14 : Nat} (l14 : x.f2.f9.length ≤ c14) (g14 : k117.C w A14 x.f2.f9.length x.f2.f9) {A15 : Option Addr} {c15 : Nat} (l15 : x.f2.f10.length ≤ c15) (g15 : k46.C w A15 x.f2.f10.length x.f2.f10) : k48.K w x [.int .u32 x.f0.f0, .int .u32 x.f0.f1, .int .i8 x.f1.f0, .int .u32 x.f1.f1, .int .i64 x.f1.f2, .int .i8 x.f2.f0, .string x.f2.f1, .slice A7 x.f2.f2.length c7, .slice A8 x.f2.f3.length c8, .int .i32 x.f2.f4, .bool x.f2.f5, .bool x.f2.f6, .int .i64 x.f2.f7, .int .i32 x.f2.f8, .slice A14 x.f2.f9.length c14, .slice A15 x.f2.f10.length c15] := ⟨[.int .u32 x.f0.f0, .int .u32 x.f0.f1], [.int .i8 x.f1.f0, .int .u32 x.f1.f1, .int .i64 x.f1.f2, .int .i8 x.f2.f0, .string x.f2.f1, .slice A7 x.f2.f2.length c7, .slice A8 x.f2.f3.length c8, .int .i32 x.f2.f4, .bool x.f2.f5, .bool x.f2.f6, .int .i64 x.f2.f7, .int .i32 x.f2.f8, .slice A14 x.f2.f9.length c14, .slice A15 x.f2.f10.length c15], rfl, (k37_mk w x.f0 ), ⟨[.int .i8 x.f1.f0, .int .u32 x.f1.f1, .int .i64 x.f1.f2], [.int .i8 x.f2.f0, .string x.f2.f1, .slice A7 x.f2.f2.length c7, .slice A8 x.f2.f3.length c8, .int .i32 x.f2.f4, .bool x.f2.f5, .bool x.f2.f6, .int .i64 x.f2.f7, .int .i32 x.f2.f8, .slice A14 x.f2.f9.length c14, .slice A15 x.f2.f10.length c15], rfl, (k40_mk w x.f1 ), (k46_mk w x.f2 l7 g7 l8 g8 l14 g14 l15 g15)⟩⟩
theorem k48_mkM (w : World) (base : Nat) (ok : Nat → Prop) (x : S48) {v7 : Value} (g7 : (Kd.int .u8).R 5 w base ok v7 x.f2.f2) {v8 : Value} (g8 : k119.R 119 w base ok v8 x.f2.f3) {v14 : Value} (g14 : k117.R 117 w base ok v14 x.f2.f9) {v15 : Value} (g15 : k46.R 46 w base ok v15 x.f2.f10) : k48.M w base ok x [.int .u32 x.f0.f0, .int .u32 x.f0.f1, .int .i8 x.f1.f0, .int .u32 x.f1.f1, .int .i64 x.f1.f2, .int .i8 x.f2.f0, .string x.f2.f1, v7, v8, .int .i32 x.f2.f4, .bool x.f2.f5, .bool x.f2.f6, .int .i64 x.f2.f7, .int .i32 x.f2.f8, v14, v15] := ⟨[.int .u32 x.f0.f0, .int .u32 x.f0.f1], [.int .i8 x.f1.f0, .int .u32 x.f1.f1, .int .i64 x.f1.f2, .int .i8 x.f2.f0, .string x.f2.f1, v7, v8, .int .i32 x.f2.f4, .bool x.f2.f5, .bool x.f2.f6, .int .i64 x.f2.f7, .int .i32 x.f2.f8, v14, v15], rfl, (k37_mkM w base ok x.f0 ), ⟨[.int .i8 x.f1.f0, .int .u32 x.f1.f1, .int .i64 x.f1.f2], [.int .i8 x.f2.f0, .string x.f2.f1, v7, v8, .int .i32 x.f2.f4, .bool x.f2.f5, .bool x.f2.f6, .int .i64 x.f2.f7, .int .i32 x.f2.f8, v14, v15], rfl, (k40_mkM w base ok x.f1 ), (k46_mkM w base ok x.f2 g7 g8 g14 g15)⟩⟩
def rd_T48 (xs : List S48) (i : Int) : S48 := xs.getD i.toNat z48
theorem at_T48 {w : World} {A : Option Addr} {n : Nat} {xs : List S48} (h : Kd.C k48 w A n xs) (i : Int) (h0 : 0 ≤ i) (h1 : i < n) : ∃ ad A7 c7 A8 c8 A14 c14 A15 c15, A = some ad ∧ w.cell? (ad.add (i.toNat * 16)) = some (.int .u32 (rd_T48 xs i).f0.f0) ∧ w.cell? ⟨(ad.add (i.toNat * 16)).block, (ad.add (i.toNat * 16)).off + 1, none⟩ = some (.int .u32 (rd_T48 xs i).f0.f1) ∧ w.cell? ⟨(ad.add (i.toNat * 16)).block, (ad.add (i.toNat * 16)).off + 2, none⟩ = some (.int .i8 (rd_T48 xs i).f1.f0) ∧ w.cell? ⟨(ad.add (i.toNat * 16)).block, (ad.add (i.toNat * 16)).off + 3, none⟩ = some (.int .u32 (rd_T48 xs i).f1.f1) ∧ w.cell? ⟨(ad.add (i.toNat * 16)).block, (ad.add (i.toNat * 16)).off + 4, none⟩ = some (.int .i64 (rd_T48 xs i).f1.f2) ∧ w.cell? ⟨(ad.add (i.toNat * 16)).block, (ad.add (i.toNat * 16)).off + 5, none⟩ = some (.int .i8 (rd_T48 xs i).f2.f0) ∧ w.cell? ⟨(ad.add (i.toNat * 16)).block, (ad.add (i.toNat * 16)).off + 6, none⟩ = some (.string (rd_T48 xs i).f2.f1) ∧ w.cell? ⟨(ad.add (i.toNat * 16)).block, (ad.add (i.toNat * 16)).off + 7, none⟩ = some (.slice A7 (rd_T48 xs i).f2.f2.length c7) ∧ w.cell? ⟨(ad.add (i.toNat * 16)).block, (ad.add (i.toNat * 16)).off + 8, none⟩ = some (.slice A8 (rd_T48 xs i).f2.f3.length c8) ∧ w.cell? ⟨(ad.add (i.toNat * 16)).block, (ad.add (i.toNat * 16)).off + 9, none⟩ = some (.int .i32 (rd_T48 xs i).f2.f4) ∧ w.cell? ⟨(ad.add (i.toNat * 16)).block, (ad.add (i.toNat * 16)).off + 10, none⟩ = some (.bool (rd_T48 xs i).f2.f5) ∧ w.cell? ⟨(ad.add (i.toNat * 16)).block, (ad.add (i.toNat * 16)).off + 11, none⟩ = some (.bool (rd_T48 xs i).f2.f6) ∧ w.cell? ⟨(ad.add (i.toNat * 16)).block, (ad.add (i.toNat * 16)).off + 12, none⟩ = some (.int .i64 (rd_T48 xs i).f2.f7) ∧ w.cell? ⟨(ad.add (i.toNat * 16)).block, (ad.add (i.toNat * 16)).off + 13, none⟩ = some (.int .i32 (rd_T48 xs i).f2.f8) ∧ w.cell? ⟨(ad.add (i.toNat * 16)).block, (ad.add (i.toNat * 16)).off + 14, none⟩ = some (.slice A14 (rd_T48 xs i).f2.f9.length c14) ∧ w.cell? ⟨(ad.add (i.toNat * 16)).block, (ad.add (i.toNat * 16)).off + 15, none⟩ = some (.slice A15 (rd_T48 xs i).f2.f10.length c15) ∧ (rd_T48 xs i).f2.f2.length ≤ c7 ∧ (Kd.int .u8).C w A7 (rd_T48 xs i).f2.f2.length (rd_T48 xs i).f2.f2 ∧ (rd_T48 xs i).f2.f3.length ≤ c8 ∧ k119.C w A8 (rd_T48 xs i).f2.f3.length (rd_T48 xs i).f2.f3 ∧ (rd_T48 xs i).f2.f9.length ≤ c14 ∧ k117.C w A14 (rd_T48 xs i).f2.f9.length (rd_T48 xs i).f2.f9 ∧ (rd_T48 xs i).f2.f10.length ≤ c15 ∧ k46.C w A15 (rd_T48 xs i).f2.f10.length (rd_T48 xs i).f2.f10 := by
  obtain ⟨ad, c, e, _, hK, hc0⟩ := Kd.C_get h z48 i h0 h1
  have hc : ∀ j u, c[j]? = some u → w.cell? (ad.add (i.toNat * 16 + j)) = some u := hc0
  obtain ⟨A7, c7, A8, c8, A14, c14, A15, c15, rfl, l7, g7, l8, g8, l14, g14, l15, g15⟩ := k48_open hK
  exact ⟨ad, A7, c7, A8, c8, A14, c14, A15, c15, e, hc 0 _ rfl, by rw [← add_field _ _ 1 (by omega)]; exact hc 1 _ rfl, by rw [← add_field _ _ 2 (by omega)]; exact hc 2 _ rfl, by rw [← add_field _ _ 3 (by omega)]; exact hc 3 _ rfl, by rw [← add_field _ _ 4 (by omega)]; exact hc 4 _ rfl, by rw [← add_field _ _ 5 (by omega)]; exact hc 5 _ rfl, by rw [← add_field _ _ 6 (by omega)]; exact hc 6 _ rfl, by rw [← add_field _ _ 7 (by omega)]; exact hc 7 _ rfl, by rw [← add_field _ _ 8 (by omega)]; exact hc 8 _ rfl, by rw [← add_field _ _ 9 (by omega)]; exact hc 9 _ rfl, by rw [← add_field _ _ 10 (by omega)]; exact hc 10 _ rfl, by rw [← add_field _ _ 11 (by omega)]; exact hc 11 _ rfl, by rw [← add_field _ _ 12 (by omega)]; exact hc 12 _ rfl, by rw [← add_field _ _ 13 (by omega)]; exact hc 13 _ rfl, by rw [← add_field _ _ 14 (by omega)]; exact hc 14 _ rfl, by rw [← add_field _ _ 15 (by omega)]; exact hc 15 _ rfl, l7, g7, l8, g8, l14, g14, l15, g15⟩

end Go.Proofs.Yteajaakhdnlpeaa.PCacheBehind
