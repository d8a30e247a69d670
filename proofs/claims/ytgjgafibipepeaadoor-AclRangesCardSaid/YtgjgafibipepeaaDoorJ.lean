import Derived.Test.YtgjgafibipepeaaDoorI
namespace Go.Proofs.YtgjgafibipepeaaDoor.Q
open Go.RowKit Go.Proofs.YtgjgafibipepeaaDoorW.PrintWords Go.Deep Go.Maps Go.WideShapes Go.Lib
set_option linter.unusedVariables false
set_option linter.unusedSimpArgs false
attribute [local go_sem] Oper.semAt_some

/-! IDS -/
abbrev sAnyone : List UInt8 := [97, 110, 121, 111, 110, 101]
theorem never_calls (s : ByteArray) (w : World) : Calls Tryd.prog 43 #[.string s] w fun e w' => e = .returned (.bool false) ∧ w' = w := by
  go_enter Tryd.func43, Tryd.ntmps43
  go_wp2
  go_ret
  exact ⟨rfl, rfl⟩
theorem eWorld_calls (s : ByteArray) (w : World) : Calls Tryd.prog 44 #[.string s] w fun e w' => e = .returned (.bool (s.data.toList == sAnyone)) ∧ w' = w := by
  rw [← Lib.toList_data]
  go_enter Tryd.func44, Tryd.ntmps44
  go_wp2
  go_ret
  exact ⟨by simp, rfl⟩
theorem eAuth_calls (s : ByteArray) (w : World) : Calls Tryd.prog 50 #[.string s] w fun e w' => e = .returned (.bool (s.data.toList == [])) ∧ w' = w := by
  rw [← Lib.toList_data]
  go_enter Tryd.func50, Tryd.ntmps50
  go_wp2
  go_ret
  exact ⟨by simp, rfl⟩
theorem mName_calls (s t : ByteArray) (w : World) : Calls Tryd.prog 49 #[.string s, .string t] w fun e w' => e = .returned (.bool (s.data.toList == t.data.toList)) ∧ w' = w := by
  rw [← Lib.toList_data, ← Lib.toList_data]
  go_enter Tryd.func49, Tryd.ntmps49
  go_wp2
  go_ret
  exact ⟨by simp, rfl⟩
/-- is it an id of an entry? -/
def entryN (n : Nat) (m : List UInt8) : Bool := match n with
  | 0 => false
  | 1 => m == sAnyone
  | 2 => (rangeB m).isSome
  | 3 => nameB m
  | _ => m == []
def entryB (l m : List UInt8) : Bool := entryN (schNo l) m
/-- is it an id of a client? -/
def clientN (n : Nat) (m : List UInt8) : Bool := match n with
  | 2 => (addrB m).isSome
  | 3 => nameB m
  | _ => false
def clientB (l m : List UInt8) : Bool := clientN (schNo l) m
end Go.Proofs.YtgjgafibipepeaaDoor.Q
