/-
  No cell of these rows narrows 'for every input' (looked for: loops, veiled, ifaces, maps, wideKeys, modest, calm, conditions, laid).
  DERIVED. THE GIVEN ROWS OF THIS SEAT. 5 by the template 'for every input the law returns true; each argument reads behind the call as it read before'; 0 by the template 'total and deterministic' (their statements: YtfkbknkmanphfaaTotals.lean).
  GIVEN WITH THE SEED: the statements are not yours to turn. If you find one false, say at which input.
  Laid BY PROGRAM, IN A SANDBOX (cutbox-rows.mjs): the forced cells as the released guide's own fill.sh prints them over the translation 14ba5d4452495e04… (all of the seat's roots in one cut). By AI agents, Wed Nov 11 2026. No macro, syntax, notation, axiom, sorry.
-/
import Derived.Test.YtfkbknkmanphfaaChecked
import GoSem.Claim
import GoSem.ClaimJoined
import GoSem.ClaimMapViews
import Derived.JoinedTies
import Derived.KernelRfl
namespace Go.Proofs.Ytfkbknkmanphfaa
/- THE CELL 'sum', in the pinned program and in every row, IS THE sha256 OF THE DUMP (.gsa) THAT YtfkbknkmanphfaaProg.lean LOADS. Nothing in Lean hashes anything: it is a label: what it is worth is what the hold of that sum in a sandbox is worth. -/
noncomputable def Try.pinned : Pinned := { name := "ytfkbknkmanphfaa", sum := "14ba5d4452495e0482fa21e5324f73c62d2176f6272c703fe6ee84caeb2aa247", checked := Try.checked }
namespace Rows
def none {H : Type} : Left H := { results := [], args := [] }

/-- 'lagoonlaw20.QuorumTwo': WHATEVER THE INPUT: true; the input reads as it did. -/
def quorumTwoSpec : ChangeSpec := { name := "quorumTwo", fn := fun _ => fun
  | [d] => { results := [.lit (.bool true)], args := [d] }
  | _ => none }
def quorumTwoRow : OpenClaim := { program := "ytfkbknkmanphfaa", sum := "14ba5d4452495e0482fa21e5324f73c62d2176f6272c703fe6ee84caeb2aa247", func := "lagoon/lagoonlaw20.QuorumTwo", spec := "quorumTwo", apart := false }
def QuorumTwoSaid : Prop := quorumTwoRow.holds Try.pinned (OpenSpec.ofChange quorumTwoSpec)

/-- ITS FALSE NEIGHBOUR: 'it returns false'. Refute it at one input. -/
def quorumTwoWrong : ChangeSpec := { name := "quorumTwo", fn := fun _ => fun
  | [d] => { results := [.lit (.bool false)], args := [d] }
  | _ => none }
def QuorumTwoWrongFalsely : Prop := quorumTwoRow.holds Try.pinned (OpenSpec.ofChange quorumTwoWrong)

/-- 'lagoonlaw20.QuorumRises': WHATEVER THE INPUT: true; the input reads as it did. -/
def quorumRisesSpec : ChangeSpec := { name := "quorumRises", fn := fun _ => fun
  | [d1, d2, d3] => { results := [.lit (.bool true)], args := [d1, d2, d3] }
  | _ => none }
def quorumRisesRow : OpenClaim := { program := "ytfkbknkmanphfaa", sum := "14ba5d4452495e0482fa21e5324f73c62d2176f6272c703fe6ee84caeb2aa247", func := "lagoon/lagoonlaw20.QuorumRises", spec := "quorumRises", apart := false }
def QuorumRisesSaid : Prop := quorumRisesRow.holds Try.pinned (OpenSpec.ofChange quorumRisesSpec)

/-- ITS FALSE NEIGHBOUR: 'it returns false'. Refute it at one input. -/
def quorumRisesWrong : ChangeSpec := { name := "quorumRises", fn := fun _ => fun
  | [d1, d2, d3] => { results := [.lit (.bool false)], args := [d1, d2, d3] }
  | _ => none }
def QuorumRisesWrongFalsely : Prop := quorumRisesRow.holds Try.pinned (OpenSpec.ofChange quorumRisesWrong)

/-- 'lagoonlaw20.QuorumNews': WHATEVER THE INPUT: true; the input reads as it did. -/
def quorumNewsSpec : ChangeSpec := { name := "quorumNews", fn := fun _ => fun
  | [d1, d2] => { results := [.lit (.bool true)], args := [d1, d2] }
  | _ => none }
def quorumNewsRow : OpenClaim := { program := "ytfkbknkmanphfaa", sum := "14ba5d4452495e0482fa21e5324f73c62d2176f6272c703fe6ee84caeb2aa247", func := "lagoon/lagoonlaw20.QuorumNews", spec := "quorumNews", apart := false }
def QuorumNewsSaid : Prop := quorumNewsRow.holds Try.pinned (OpenSpec.ofChange quorumNewsSpec)

/-- ITS FALSE NEIGHBOUR: 'it returns false'. Refute it at one input. -/
def quorumNewsWrong : ChangeSpec := { name := "quorumNews", fn := fun _ => fun
  | [d1, d2] => { results := [.lit (.bool false)], args := [d1, d2] }
  | _ => none }
def QuorumNewsWrongFalsely : Prop := quorumNewsRow.holds Try.pinned (OpenSpec.ofChange quorumNewsWrong)

/-- 'lagoonlaw20.QuorumMeets': WHATEVER THE INPUT: true; the input reads as it did. -/
def quorumMeetsSpec : ChangeSpec := { name := "quorumMeets", fn := fun _ => fun
  | [d] => { results := [.lit (.bool true)], args := [d] }
  | _ => none }
def quorumMeetsRow : OpenClaim := { program := "ytfkbknkmanphfaa", sum := "14ba5d4452495e0482fa21e5324f73c62d2176f6272c703fe6ee84caeb2aa247", func := "lagoon/lagoonlaw20.QuorumMeets", spec := "quorumMeets", apart := false }
def QuorumMeetsSaid : Prop := quorumMeetsRow.holds Try.pinned (OpenSpec.ofChange quorumMeetsSpec)

/-- ITS FALSE NEIGHBOUR: 'it returns false'. Refute it at one input. -/
def quorumMeetsWrong : ChangeSpec := { name := "quorumMeets", fn := fun _ => fun
  | [d] => { results := [.lit (.bool false)], args := [d] }
  | _ => none }
def QuorumMeetsWrongFalsely : Prop := quorumMeetsRow.holds Try.pinned (OpenSpec.ofChange quorumMeetsWrong)

/-- 'lagoonlaw20.QuorumNone': WHATEVER THE INPUT: true; the input reads as it did. -/
def quorumNoneSpec : ChangeSpec := { name := "quorumNone", fn := fun _ => fun
  | [d1, d2, d3] => { results := [.lit (.bool true)], args := [d1, d2, d3] }
  | _ => none }
def quorumNoneRow : OpenClaim := { program := "ytfkbknkmanphfaa", sum := "14ba5d4452495e0482fa21e5324f73c62d2176f6272c703fe6ee84caeb2aa247", func := "lagoon/lagoonlaw20.QuorumNone", spec := "quorumNone", apart := false }
def QuorumNoneSaid : Prop := quorumNoneRow.holds Try.pinned (OpenSpec.ofChange quorumNoneSpec)

/-- ITS FALSE NEIGHBOUR: 'it returns false'. Refute it at one input. -/
def quorumNoneWrong : ChangeSpec := { name := "quorumNone", fn := fun _ => fun
  | [d1, d2, d3] => { results := [.lit (.bool false)], args := [d1, d2, d3] }
  | _ => none }
def QuorumNoneWrongFalsely : Prop := quorumNoneRow.holds Try.pinned (OpenSpec.ofChange quorumNoneWrong)

/- THE SECOND FORM. 'bulk': how many values and letters a reading holds, each counted each time it is reached (what is shared counts as often as it is met; a slice's spare places count too). A statement '..UptoSaid' is the law's where the arguments, and the package variables that the reading takes, are together of bulk at most 1048576: NARROWER than '..Said'. Prove '..Said' where nothing that the law and all that it calls make is longer than what came in: it says more and counts as full. Else prove '..UptoSaid'. A law counts once. -/
mutual
def uptoBulk {H : Type} : DataW H → Nat
  | .lit (.string bytes) => bytes.length + 1
  | .lit _ => 1
  | .nil => 1
  | .ptr d => uptoBulk d + 1
  | .slice elems spare => uptoBulkAll elems + uptoBulkAll spare + 1
  | .agg parts => uptoBulkAll parts + 1
  | .iface _ d => uptoBulk d + 1
  | .map entries => uptoBulkEntries entries + 1
  | .held _ => 1
def uptoBulkAll {H : Type} : List (DataW H) → Nat
  | [] => 0
  | d :: r => uptoBulk d + uptoBulkAll r
def uptoBulkEntries {H : Type} : List (Lit × DataW H) → Nat
  | [] => 0
  | x :: r => uptoBulkEntry x + uptoBulkEntries r
def uptoBulkEntry {H : Type} : Lit × DataW H → Nat
  | (.string bytes, d) => bytes.length + uptoBulk d + 1
  | (_, d) => uptoBulk d + 1
 end
def uptoSmall : (H : Type) → List (DataW H) → Bool := fun _ ds => decide (uptoBulkAll ds ≤ 1048576)
def OpenSpec.upto (s : _root_.Go.ChangeSpec) : _root_.Go.OpenSpec := { _root_.Go.OpenSpec.ofChange s with cond := some uptoSmall }

/-- 'lagoonlaw20.QuorumTwo', WHERE WHAT IT READS IS OF BULK AT MOST 1048576: true; the input reads as it did. -/
def quorumTwoUptoRow : OpenClaim := { program := "ytfkbknkmanphfaa", sum := "14ba5d4452495e0482fa21e5324f73c62d2176f6272c703fe6ee84caeb2aa247", func := "lagoon/lagoonlaw20.QuorumTwo", spec := "quorumTwo", apart := false, narrowed := true }
def QuorumTwoUptoSaid : Prop := quorumTwoUptoRow.holds Try.pinned (OpenSpec.upto quorumTwoSpec)

/-- 'lagoonlaw20.QuorumRises', WHERE WHAT IT READS IS OF BULK AT MOST 1048576: true; the input reads as it did. -/
def quorumRisesUptoRow : OpenClaim := { program := "ytfkbknkmanphfaa", sum := "14ba5d4452495e0482fa21e5324f73c62d2176f6272c703fe6ee84caeb2aa247", func := "lagoon/lagoonlaw20.QuorumRises", spec := "quorumRises", apart := false, narrowed := true }
def QuorumRisesUptoSaid : Prop := quorumRisesUptoRow.holds Try.pinned (OpenSpec.upto quorumRisesSpec)

/-- 'lagoonlaw20.QuorumNews', WHERE WHAT IT READS IS OF BULK AT MOST 1048576: true; the input reads as it did. -/
def quorumNewsUptoRow : OpenClaim := { program := "ytfkbknkmanphfaa", sum := "14ba5d4452495e0482fa21e5324f73c62d2176f6272c703fe6ee84caeb2aa247", func := "lagoon/lagoonlaw20.QuorumNews", spec := "quorumNews", apart := false, narrowed := true }
def QuorumNewsUptoSaid : Prop := quorumNewsUptoRow.holds Try.pinned (OpenSpec.upto quorumNewsSpec)

/-- 'lagoonlaw20.QuorumMeets', WHERE WHAT IT READS IS OF BULK AT MOST 1048576: true; the input reads as it did. -/
def quorumMeetsUptoRow : OpenClaim := { program := "ytfkbknkmanphfaa", sum := "14ba5d4452495e0482fa21e5324f73c62d2176f6272c703fe6ee84caeb2aa247", func := "lagoon/lagoonlaw20.QuorumMeets", spec := "quorumMeets", apart := false, narrowed := true }
def QuorumMeetsUptoSaid : Prop := quorumMeetsUptoRow.holds Try.pinned (OpenSpec.upto quorumMeetsSpec)

/-- 'lagoonlaw20.QuorumNone', WHERE WHAT IT READS IS OF BULK AT MOST 1048576: true; the input reads as it did. -/
def quorumNoneUptoRow : OpenClaim := { program := "ytfkbknkmanphfaa", sum := "14ba5d4452495e0482fa21e5324f73c62d2176f6272c703fe6ee84caeb2aa247", func := "lagoon/lagoonlaw20.QuorumNone", spec := "quorumNone", apart := false, narrowed := true }
def QuorumNoneUptoSaid : Prop := quorumNoneUptoRow.holds Try.pinned (OpenSpec.upto quorumNoneSpec)

end Rows
end Go.Proofs.Ytfkbknkmanphfaa
