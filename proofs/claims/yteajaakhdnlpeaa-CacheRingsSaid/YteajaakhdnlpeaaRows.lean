/-
  NARROWER THAN 'FOR EVERY INPUT', by the rows' own cells (each row's printed sentence says how): CacheRings: loops · CacheBehind: loops.
  DERIVED. THE GIVEN ROWS OF THIS SEAT. 4 by the template 'for every input the law returns true; each argument reads behind the call as it read before'; 0 by the template 'total and deterministic' (their statements: YteajaakhdnlpeaaTotals.lean).
  GIVEN WITH THE SEED: the statements are not yours to turn. If you find one false, say at which input.
  Laid BY PROGRAM, IN A SANDBOX (cutbox-rows.mjs): the forced cells as the released guide's own fill.sh prints them over the translation 6c5befea133c84c6… (all of the seat's roots in one cut). By AI agents, Wed Nov 11 2026. No macro, syntax, notation, axiom, sorry.
-/
import Derived.Test.YteajaakhdnlpeaaChecked
import GoSem.Claim
import GoSem.ClaimJoined
import GoSem.ClaimMapViews
import Derived.JoinedTies
import Derived.KernelRfl
namespace Go.Proofs.Yteajaakhdnlpeaa
/- THE CELL 'sum', in the pinned program and in every row, IS THE sha256 OF THE DUMP (.gsa) THAT YteajaakhdnlpeaaProg.lean LOADS. Nothing in Lean hashes anything: it is a label: what it is worth is what the hold of that sum in a sandbox is worth. -/
noncomputable def Try.pinned : Pinned := { name := "yteajaakhdnlpeaa", sum := "6c5befea133c84c68522cd9e7841453d828bcef242813864257d2613c50eb79e", checked := Try.checked }
namespace Rows
def none {H : Type} : Left H := { results := [], args := [] }

/-- 'lagoonlaw13.CacheRings': WHATEVER THE INPUT: true; the input reads as it did. -/
def cacheRingsSpec : ChangeSpec := { name := "cacheRings", fn := fun _ => fun
  | [d1, d2, d3] => { results := [.lit (.bool true)], args := [d1, d2, d3] }
  | _ => none }
def cacheRingsRow : OpenClaim := { program := "yteajaakhdnlpeaa", sum := "6c5befea133c84c68522cd9e7841453d828bcef242813864257d2613c50eb79e", func := "lagoon/lagoonlaw13.CacheRings", spec := "cacheRings", loops := true, apart := false }
def CacheRingsSaid : Prop := cacheRingsRow.holds Try.pinned (OpenSpec.ofChange cacheRingsSpec)

/-- ITS FALSE NEIGHBOUR: 'it returns false'. Refute it at one input. -/
def cacheRingsWrong : ChangeSpec := { name := "cacheRings", fn := fun _ => fun
  | [d1, d2, d3] => { results := [.lit (.bool false)], args := [d1, d2, d3] }
  | _ => none }
def CacheRingsWrongFalsely : Prop := cacheRingsRow.holds Try.pinned (OpenSpec.ofChange cacheRingsWrong)

/-- 'lagoonlaw13.CacheLast': WHATEVER THE INPUT: true; the input reads as it did. -/
def cacheLastSpec : ChangeSpec := { name := "cacheLast", fn := fun _ => fun
  | [d1, d2, d3] => { results := [.lit (.bool true)], args := [d1, d2, d3] }
  | _ => none }
def cacheLastRow : OpenClaim := { program := "yteajaakhdnlpeaa", sum := "6c5befea133c84c68522cd9e7841453d828bcef242813864257d2613c50eb79e", func := "lagoon/lagoonlaw13.CacheLast", spec := "cacheLast", apart := false }
def CacheLastSaid : Prop := cacheLastRow.holds Try.pinned (OpenSpec.ofChange cacheLastSpec)

/-- ITS FALSE NEIGHBOUR: 'it returns false'. Refute it at one input. -/
def cacheLastWrong : ChangeSpec := { name := "cacheLast", fn := fun _ => fun
  | [d1, d2, d3] => { results := [.lit (.bool false)], args := [d1, d2, d3] }
  | _ => none }
def CacheLastWrongFalsely : Prop := cacheLastRow.holds Try.pinned (OpenSpec.ofChange cacheLastWrong)

/-- 'lagoonlaw13.CacheAll': WHATEVER THE INPUT: true; the input reads as it did. -/
def cacheAllSpec : ChangeSpec := { name := "cacheAll", fn := fun _ => fun
  | [d1, d2, d3, d4, d5] => { results := [.lit (.bool true)], args := [d1, d2, d3, d4, d5] }
  | _ => none }
def cacheAllRow : OpenClaim := { program := "yteajaakhdnlpeaa", sum := "6c5befea133c84c68522cd9e7841453d828bcef242813864257d2613c50eb79e", func := "lagoon/lagoonlaw13.CacheAll", spec := "cacheAll", unfollowed := true, recurses := true, apart := false }
def CacheAllSaid : Prop := cacheAllRow.holds Try.pinned (OpenSpec.ofChange cacheAllSpec)

/-- ITS FALSE NEIGHBOUR: 'it returns false'. Refute it at one input. -/
def cacheAllWrong : ChangeSpec := { name := "cacheAll", fn := fun _ => fun
  | [d1, d2, d3, d4, d5] => { results := [.lit (.bool false)], args := [d1, d2, d3, d4, d5] }
  | _ => none }
def CacheAllWrongFalsely : Prop := cacheAllRow.holds Try.pinned (OpenSpec.ofChange cacheAllWrong)

/-- 'lagoonlaw13.CacheBehind': WHATEVER THE INPUT: true; the input reads as it did. -/
def cacheBehindSpec : ChangeSpec := { name := "cacheBehind", fn := fun _ => fun
  | [d1, d2, d3, d4] => { results := [.lit (.bool true)], args := [d1, d2, d3, d4] }
  | _ => none }
def cacheBehindRow : OpenClaim := { program := "yteajaakhdnlpeaa", sum := "6c5befea133c84c68522cd9e7841453d828bcef242813864257d2613c50eb79e", func := "lagoon/lagoonlaw13.CacheBehind", spec := "cacheBehind", unfollowed := true, recurses := true, loops := true, apart := false }
def CacheBehindSaid : Prop := cacheBehindRow.holds Try.pinned (OpenSpec.ofChange cacheBehindSpec)

/-- ITS FALSE NEIGHBOUR: 'it returns false'. Refute it at one input. -/
def cacheBehindWrong : ChangeSpec := { name := "cacheBehind", fn := fun _ => fun
  | [d1, d2, d3, d4] => { results := [.lit (.bool false)], args := [d1, d2, d3, d4] }
  | _ => none }
def CacheBehindWrongFalsely : Prop := cacheBehindRow.holds Try.pinned (OpenSpec.ofChange cacheBehindWrong)

/- THE SECOND FORM. 'bulk': how many values and letters a reading holds, each counted each time it is reached (what is shared counts as often as it is met; a slice's spare places count too). A statement '..UptoSaid' is the law's where the arguments, and the package variables that the reading takes, are together of bulk at most 1048576: NARROWER than '..Said'. Prove '..Said' where nothing that the law and all that it calls make is longer than what came in: it says more and counts as full. Else prove '..UptoSaid'. A law counts once. -/
mutual
def uptoBulk {H : Type} : DataW H → Nat
  | .lit (.string bytes) => bytes.length + 1
  | .lit _ => 1
  | .nil => 1
  | .ptr d => uptoBulk d + 1
  | .slice elems spare => uptoBulkAll elems + uptoBulkAll spare + 1
  | .agg parts => uptoBulkAll parts + 1
  | .iface _ d => uptoBulk d + 1
  | .map entries => uptoBulkEntries entries + 1
  | .held _ => 1
def uptoBulkAll {H : Type} : List (DataW H) → Nat
  | [] => 0
  | d :: r => uptoBulk d + uptoBulkAll r
def uptoBulkEntries {H : Type} : List (Lit × DataW H) → Nat
  | [] => 0
  | x :: r => uptoBulkEntry x + uptoBulkEntries r
def uptoBulkEntry {H : Type} : Lit × DataW H → Nat
  | (.string bytes, d) => bytes.length + uptoBulk d + 1
  | (_, d) => uptoBulk d + 1
 end
def uptoSmall : (H : Type) → List (DataW H) → Bool := fun _ ds => decide (uptoBulkAll ds ≤ 1048576)
def OpenSpec.upto (s : _root_.Go.ChangeSpec) : _root_.Go.OpenSpec := { _root_.Go.OpenSpec.ofChange s with cond := some uptoSmall }

/-- 'lagoonlaw13.CacheRings', WHERE WHAT IT READS IS OF BULK AT MOST 1048576: true; the input reads as it did. -/
def cacheRingsUptoRow : OpenClaim := { program := "yteajaakhdnlpeaa", sum := "6c5befea133c84c68522cd9e7841453d828bcef242813864257d2613c50eb79e", func := "lagoon/lagoonlaw13.CacheRings", spec := "cacheRings", loops := true, apart := false, narrowed := true }
def CacheRingsUptoSaid : Prop := cacheRingsUptoRow.holds Try.pinned (OpenSpec.upto cacheRingsSpec)

/-- 'lagoonlaw13.CacheLast', WHERE WHAT IT READS IS OF BULK AT MOST 1048576: true; the input reads as it did. -/
def cacheLastUptoRow : OpenClaim := { program := "yteajaakhdnlpeaa", sum := "6c5befea133c84c68522cd9e7841453d828bcef242813864257d2613c50eb79e", func := "lagoon/lagoonlaw13.CacheLast", spec := "cacheLast", apart := false, narrowed := true }
def CacheLastUptoSaid : Prop := cacheLastUptoRow.holds Try.pinned (OpenSpec.upto cacheLastSpec)

/-- 'lagoonlaw13.CacheAll', WHERE WHAT IT READS IS OF BULK AT MOST 1048576: true; the input reads as it did. -/
def cacheAllUptoRow : OpenClaim := { program := "yteajaakhdnlpeaa", sum := "6c5befea133c84c68522cd9e7841453d828bcef242813864257d2613c50eb79e", func := "lagoon/lagoonlaw13.CacheAll", spec := "cacheAll", unfollowed := true, recurses := true, apart := false, narrowed := true }
def CacheAllUptoSaid : Prop := cacheAllUptoRow.holds Try.pinned (OpenSpec.upto cacheAllSpec)

/-- 'lagoonlaw13.CacheBehind', WHERE WHAT IT READS IS OF BULK AT MOST 1048576: true; the input reads as it did. -/
def cacheBehindUptoRow : OpenClaim := { program := "yteajaakhdnlpeaa", sum := "6c5befea133c84c68522cd9e7841453d828bcef242813864257d2613c50eb79e", func := "lagoon/lagoonlaw13.CacheBehind", spec := "cacheBehind", unfollowed := true, recurses := true, loops := true, apart := false, narrowed := true }
def CacheBehindUptoSaid : Prop := cacheBehindUptoRow.holds Try.pinned (OpenSpec.upto cacheBehindSpec)

end Rows
end Go.Proofs.Yteajaakhdnlpeaa
