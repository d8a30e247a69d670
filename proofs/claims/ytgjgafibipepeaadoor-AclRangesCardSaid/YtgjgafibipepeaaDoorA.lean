import Derived.Test.YtgjgafibipepeaaDoorRows
import Derived.Test.YtgjgafibipepeaaDoorWWords
import Derived.Test.YtgjgafibipepeaaDoorShelf
import Derived.Test.YtgjgafibipepeaaDoorP4
import Derived.WalkKit
import Derived.Handy
import Derived.BigCall
import Derived.Lib.Hide
import Derived.Lib.OthersKept
import Derived.WalkLawsBesides
import Derived.WalkSpells
import Derived.WalkSmall
import Derived.Outline
import Derived.StillTailTactics
import Derived.RegionTactic
import Derived.BigQuiet
import Derived.Deep.OwnRows
import Derived.Deep.RegionHeld3
import Derived.Deep.RegionLaw
import Derived.Deep.AppendLies
import Derived.Deep.DrawnRows
import Derived.Lib.QuietBelow
import Derived.Maps.OwnSet
import Derived.Maps.Views
import Derived.Lib.SmallJoins
import Derived.Lib.AtoiErrMem
import Derived.RangeFuncRecord
import Derived.Laws.BitsAllLaws
import Derived.Laws.Cover3
namespace Go.Proofs.YtgjgafibipepeaaDoor.Q
open Go.RowKit Go.Proofs.YtgjgafibipepeaaDoorW.PrintWords Go.Deep Go.Maps Go.WideShapes
set_option linter.unusedVariables false
set_option linter.unusedSimpArgs false

/-! WHAT THE WORLD HOLDS OF THE LIBRARY'S VARIABLES -/
structure Env (w : World) : Prop where
  pows : Lib.TabIs Tryd.prog w "internal/strconv.uint64pow10" .u64 Lib.pow10Tab
  most : ∃ m, w.cell? ⟨0, 0, none⟩ = some (.int .i64 m)
  syn : ∃ ev, w.cell? ⟨1, 0, none⟩ = some ev ∧ (ev = .nilIface ∨ ∃ te pe, ev = .iface te pe)
  rng : ∃ ev, w.cell? ⟨2, 0, none⟩ = some ev ∧ (ev = .nilIface ∨ ∃ te pe, ev = .iface te pe)
theorem pows_from {w0 w' : World} (h : Lib.TabIs Tryd.prog w0 "internal/strconv.uint64pow10" .u64 Lib.pow10Tab) (hb : Below w0.heap.size w0 w') : Lib.TabIs Tryd.prog w' "internal/strconv.uint64pow10" .u64 Lib.pow10Tab :=
  Joins.tab_stays (show Tryd.prog.globalNamed "internal/strconv.uint64pow10" = some (Option.get (Tryd.prog.globalNamed "internal/strconv.uint64pow10") (by kernel_rfl)) by kernel_rfl) h hb (Nat.le_refl _)
theorem Env.below {w w' : World} (h : Env w) (hb : Below w.heap.size w w') : Env w' :=
  ⟨pows_from h.pows hb, let ⟨m, hm⟩ := h.most; ⟨m, pw_cell_below hb hm⟩, let ⟨e, he, h'⟩ := h.syn; ⟨e, pw_cell_below hb he, h'⟩, let ⟨e, he, h'⟩ := h.rng; ⟨e, pw_cell_below hb he, h'⟩⟩
theorem itoa_calls (n : Int) (w : World) (h0 : 0 ≤ n) (h1 : n ≤ 1000) (hE : Env w) : Calls Tryd.prog 60 #[.int .i64 n] w fun e w' => e = .returned (.string ⟨(Lib.itoa n).toArray⟩) ∧ Below w.heap.size w w' :=
  (Tryd.strconv_Itoa n (by omega) (by omega) w hE.pows).mono fun e w' ⟨he, k, os, hw⟩ => ⟨he, by subst hw; exact below_step (Drawn0.mk ⟨k, rfl⟩).below (below_regrown (w.drewN k) (w.drewN k).drawn os)⟩
/-- what Atoi's world is -/
theorem atoi_below {w w' : World} {e : TypeId} (h : w' = w ∨ ∃ t, w' = Lib.bytesWorld w e t) : Below w.heap.size w w' := by
  rcases h with rfl | ⟨t, rfl⟩
  · exact Below.refl _ _
  · exact Lib.bytesWorld_below w e t
end Go.Proofs.YtgjgafibipepeaaDoor.Q
