import Derived.Test.YtgjgafibipepeaaGreatDoorRows
import Derived.Test.YtgjgafibipepeaaGreatDoorWWords
import Derived.Test.YtgjgafibipepeaaGreatDoorShelf
import Derived.Test.YtgjgafibipepeaaGreatDoorP
import Derived.WalkKit
import Derived.Handy
import Derived.BigCall
import Derived.Lib.Hide
import Derived.Lib.OthersKept
import Derived.WalkLawsBesides
import Derived.WalkSpells
import Derived.WalkSmall
import Derived.Outline
import Derived.StillTailTactics
import Derived.RegionTactic
import Derived.BigQuiet
import Derived.Deep.OwnRows
import Derived.Deep.RegionHeld3
import Derived.Deep.RegionLaw
import Derived.Deep.AppendLies
import Derived.Deep.DrawnRows
import Derived.Lib.QuietBelow
import Derived.Maps.OwnSet
import Derived.Maps.Views
import Derived.Lib.SmallJoins
import Derived.Lib.AtoiErrMem
import Derived.RangeFuncRecord
import Derived.Laws.BitsAllLaws
import Derived.Laws.Cover3
namespace Go.Proofs.YtgjgafibipepeaaGreatDoor.Q
open Go.RowKit Go.Proofs.YtgjgafibipepeaaGreatDoorW.PrintWords Go.Deep Go.Maps Go.WideShapes
set_option linter.unusedVariables false
set_option linter.unusedSimpArgs false

/-! WHAT THE WORLD HOLDS OF THE LIBRARY'S VARIABLES -/
structure Env (w : World) : Prop where
  pows : Lib.TabIs Tryz.prog w "internal/strconv.uint64pow10" .u64 Lib.pow10Tab
  most : ∃ m, w.cell? ⟨3, 0, none⟩ = some (.int .i64 m)
  syn : ∃ ev, w.cell? ⟨4, 0, none⟩ = some ev ∧ (ev = .nilIface ∨ ∃ te pe, ev = .iface te pe)
  rng : ∃ ev, w.cell? ⟨5, 0, none⟩ = some ev ∧ (ev = .nilIface ∨ ∃ te pe, ev = .iface te pe)
theorem pows_from {w0 w' : World} (h : Lib.TabIs Tryz.prog w0 "internal/strconv.uint64pow10" .u64 Lib.pow10Tab) (hb : Below w0.heap.size w0 w') : Lib.TabIs Tryz.prog w' "internal/strconv.uint64pow10" .u64 Lib.pow10Tab :=
  Joins.tab_stays (show Tryz.prog.globalNamed "internal/strconv.uint64pow10" = some (Option.get (Tryz.prog.globalNamed "internal/strconv.uint64pow10") (by kernel_rfl)) by kernel_rfl) h hb (Nat.le_refl _)
theorem Env.below {w w' : World} (h : Env w) (hb : Below w.heap.size w w') : Env w' :=
  ⟨pows_from h.pows hb, let ⟨m, hm⟩ := h.most; ⟨m, pw_cell_below hb hm⟩, let ⟨e, he, h'⟩ := h.syn; ⟨e, pw_cell_below hb he, h'⟩, let ⟨e, he, h'⟩ := h.rng; ⟨e, pw_cell_below hb he, h'⟩⟩
theorem itoa_calls (n : Int) (w : World) (h0 : 0 ≤ n) (h1 : n ≤ 1000) (hE : Env w) : Calls Tryz.prog 66 #[.int .i64 n] w fun e w' => e = .returned (.string ⟨(Lib.itoa n).toArray⟩) ∧ Below w.heap.size w w' :=
  (Tryz.strconv_Itoa n (by omega) (by omega) w hE.pows).mono fun e w' ⟨he, k, os, hw⟩ => ⟨he, by subst hw; exact below_step (Drawn0.mk ⟨k, rfl⟩).below (below_regrown (w.drewN k) (w.drewN k).drawn os)⟩
/-- what Atoi's world is -/
theorem atoi_below {w w' : World} {e : TypeId} (h : w' = w ∨ ∃ t, w' = Lib.bytesWorld w e t) : Below w.heap.size w w' := by
  rcases h with rfl | ⟨t, rfl⟩
  · exact Below.refl _ _
  · exact Lib.bytesWorld_below w e t
end Go.Proofs.YtgjgafibipepeaaGreatDoor.Q
namespace Go.Proofs.YtgjgafibipepeaaGreatDoor.Q
open Go.RowKit Go.Proofs.YtgjgafibipepeaaGreatDoorW.PrintWords Go.Deep Go.Maps Go.WideShapes Go.Lib
set_option linter.unusedVariables false
set_option linter.unusedSimpArgs false
attribute [local go_sem] Oper.semAt_some

/-! A NUMBER -/
theorem number_yes (s : ByteArray) (most k : Nat) (w : World) (hs : s.size ≤ 281474976710656) (hm : most < 1000) (hE : Env w) (h : numB most s.data.toList = some k) :
    Calls Tryz.prog 116 #[.string s, .int .i64 most] w fun e w' => e = .returned (.tuple #[.int .i64 k, .bool true]) ∧ Below w.heap.size w w' := by
  obtain ⟨h1, h2, h3⟩ := numB_ok hm h
  have K1 := Lib.hid (Tryz.strconv_Atoi_ok s (by omega) (k : Int) h1 w)
  have HE := Lib.hid hE
  have q1 : (0 : Int) ≤ k := Int.natCast_nonneg _
  have q2 : decide ((0 : Int) ≤ (k : Int)) = true := decide_eq_true q1
  have q3 : decide (k ≤ most) = true := decide_eq_true h3
  have q4 : (Lib.itoa (k : Int) == s.toList) = true := by rw [beq_iff_eq, Lib.toList_data]; exact h2
  have HK := Lib.hid h2
  clear h h1 h2 hE
  go_enter Tryz.func116, Tryz.ntmps116
  go_wp2_with fail
  refine K1.out.mono ?_
  rintro e w1 ⟨rfl, hw⟩
  have HB1 := Lib.hid (atoi_below hw)
  have K2 := Lib.hid (itoa_calls k w1 q1 (by omega) (HE.out.below HB1.out))
  clear hw
  go_wp2_with fail
  refine K2.out.mono ?_
  rintro e w2 ⟨rfl, hB⟩
  have HB2 := Lib.hid (below_step HB1.out hB)
  clear hB
  go_wp2
  go_ret2
  exact ⟨rfl, HB2.out⟩
theorem number_no (s : ByteArray) (most : Nat) (w : World) (hs : s.size ≤ 281474976710656) (hm : most < 1000) (hE : Env w) (h : numB most s.data.toList = none) :
    Calls Tryz.prog 116 #[.string s, .int .i64 most] w fun e w' => (∃ n : Int, e = .returned (.tuple #[.int .i64 n, .bool false])) ∧ Below w.heap.size w w' := by
  have HE := Lib.hid hE
  rcases hat : atoiAll s.data.toList with v | _ | _
  ·
    have K1 := Lib.hid (Tryz.strconv_Atoi_ok s (by omega) v hat w)
    by_cases h0 : 0 ≤ v
    · have q2 : decide ((0 : Int) ≤ v) = true := decide_eq_true h0
      by_cases h1 : v ≤ most
      · have q3 : decide (v ≤ (most : Int)) = true := decide_eq_true h1
        have q4 : (Lib.itoa v == s.toList) = false := by
          rw [beq_eq_false_iff_ne, Lib.toList_data]
          intro h2
          rw [numB_of_ok hat h0 h1 h2] at h
          cases h
        clear h hat hE
        go_enter Tryz.func116, Tryz.ntmps116
        go_wp2_with fail
        refine K1.out.mono ?_
        rintro e w1 ⟨rfl, hw⟩
        have HB1 := Lib.hid (atoi_below hw)
        have K2 := Lib.hid (itoa_calls v w1 h0 (by omega) (HE.out.below HB1.out))
        clear hw
        go_wp2_with fail
        refine K2.out.mono ?_
        rintro e w2 ⟨rfl, hB⟩
        have HB2 := Lib.hid (below_step HB1.out hB)
        clear hB
        go_wp2
        go_ret2
        exact ⟨⟨v, rfl⟩, HB2.out⟩
      · have q3 : decide (v ≤ (most : Int)) = false := decide_eq_false h1
        clear h hat hE
        go_enter Tryz.func116, Tryz.ntmps116
        go_wp2_with fail
        refine K1.out.mono ?_
        rintro e w1 ⟨rfl, hw⟩
        have HB1 := Lib.hid (atoi_below hw)
        clear hw
        go_wp2
        go_ret2
        exact ⟨⟨v, rfl⟩, HB1.out⟩
    · have q2 : decide ((0 : Int) ≤ v) = false := decide_eq_false h0
      clear h hat hE
      go_enter Tryz.func116, Tryz.ntmps116
      go_wp2_with fail
      refine K1.out.mono ?_
      rintro e w1 ⟨rfl, hw⟩
      have HB1 := Lib.hid (atoi_below hw)
      clear hw
      go_wp2
      go_ret2
      exact ⟨⟨v, rfl⟩, HB1.out⟩
  ·
    obtain ⟨ev, hev, hv⟩ := hE.syn
    have K1 := Lib.hid (Tryz.strconv_Atoi_syntax s hs hat ev w hev hv)
    clear h hat hE hev hv
    go_enter Tryz.func116, Tryz.ntmps116
    go_wp2_with fail
    refine K1.out.mono ?_
    rintro e w1 ⟨N, rfl, _, _, hB⟩
    have HB1 := Lib.hid hB
    clear hB
    go_wp2
    go_ret2
    exact ⟨⟨0, rfl⟩, HB1.out⟩
  ·
    obtain ⟨ev, hev, hv⟩ := hE.rng
    have K1 := Lib.hid (Tryz.strconv_Atoi_range s hs hat ev w hev hv)
    obtain ⟨v, hv2⟩ : ∃ v, atoiSat s.data.toList = v := ⟨_, rfl⟩
    rw [hv2] at K1
    clear h hat hE hev hv hv2
    go_enter Tryz.func116, Tryz.ntmps116
    go_wp2_with fail
    refine K1.out.mono ?_
    rintro e w1 ⟨N, rfl, _, _, hB⟩
    have HB1 := Lib.hid hB
    clear hB
    go_wp2
    go_ret2
    exact ⟨⟨v, rfl⟩, HB1.out⟩
end Go.Proofs.YtgjgafibipepeaaGreatDoor.Q
namespace Go.Proofs.YtgjgafibipepeaaGreatDoor.Q
open Go.RowKit Go.Proofs.YtgjgafibipepeaaGreatDoorW.PrintWords Go.Deep Go.Maps Go.WideShapes Go.Lib
set_option linter.unusedVariables false
set_option linter.unusedSimpArgs false
attribute [local go_sem] Oper.semAt_some

/-! AN ADDRESS -/
def byteV (n : Nat) : Value := .int .u8 n
def quadV (q : Quad) : Value := .agg #[byteV q.1, byteV q.2.1, byteV q.2.2.1, byteV q.2.2.2]
def noQuad : Value := .agg #[.int .u8 0, .int .u8 0, .int .u8 0, .int .u8 0]
/-- the numbers of the first parts -/
def upTo : List (List UInt8) → Nat → Option (List Nat)
  | _, 0 => some []
  | l, k + 1 => (upTo l k).bind fun ns => (numB 255 (l.getD k [])).map fun n => ns ++ [n]
theorem upTo_length {l : List (List UInt8)} {k : Nat} {ns : List Nat} (h : upTo l k = some ns) : ns.length = k := by
  induction k generalizing ns with
  | zero => cases h; rfl
  | succ k ih =>
    obtain ⟨m, h1, h2⟩ := Option.bind_eq_some_iff.1 h
    obtain ⟨n, h3, h4⟩ := Option.map_eq_some_iff.1 h2
    rw [← h4]; simp [ih h1]
theorem addrP_upTo (l : List (List UInt8)) (h : l.length = 4) : addrP l = (upTo l 4).bind fun ns => match ns with
    | [a, b, c, d] => some (a, b, c, d)
    | _ => none := by
  match l, h with
  | [a, b, c, d], _ =>
    simp only [addrP, upTo, List.getD_cons_zero, List.getD_cons_succ]
    cases numB 255 a <;> simp
    cases numB 255 b <;> simp
    cases numB 255 c <;> simp
    cases numB 255 d <;> simp
theorem addrP_other (l : List (List UInt8)) (h : l.length ≠ 4) : addrP l = none := by
  unfold addrP
  split
  · simp at h
  · rfl
theorem upTo_none {l : List (List UInt8)} {k j : Nat} (h : upTo l k = none) (hk : k ≤ j) : upTo l j = none := by
  induction j with
  | zero => obtain rfl : k = 0 := by omega
            cases h
  | succ j ih =>
    by_cases e : k = j + 1
    · subst e; exact h
    · simp [upTo, ih (by omega)]
def bytesV (ns : List Nat) : List Value := ns.map byteV
theorem infoB : (Tryz.prog.info? 5).map (fun i => (i.zero, i.size, i.bytes)) = some (some (.int .u8 0), 1, 1) := by kernel_rfl
/-- what Split gives -/
theorem split_calls (s : ByteArray) (w : World) (hs : s.size ≤ 536870912) (hE : Env w) :
    Calls Tryz.prog 117 #[.string s, .string ⟨#[46]⟩] w fun e w' => ∃ (g : Nat) (ps : List ByteArray), e = .returned (.slice (some ⟨g, 0, none⟩) ps.length ps.length) ∧ ps.map (·.data.toList) = splitC 46 s.data.toList ∧ w'.heap[g]? = some (.cells (ps.map Value.string).toArray 9 (0, 0)) ∧ Below w.heap.size w w' := by
  obtain ⟨m, hm⟩ := hE.most
  refine (Tryz.strings_Split s ⟨#[46]⟩ m w (by omega) hm (by decide)).mono ?_
  rintro e w' ⟨rfl, rfl⟩
  have hlen : (splitB ⟨#[46]⟩ 0 (countB s ⟨#[46]⟩) s).length = countB s ⟨#[46]⟩ + 1 := splitB_all ⟨#[46]⟩ (by decide) 0 _ s rfl
  refine ⟨w.heap.size, splitB ⟨#[46]⟩ 0 (countB s ⟨#[46]⟩) s, by rw [hlen], parts_one s 46, World.alloc_heap_new _ _, below_alloc (Below.refl _ w) _⟩
theorem part_size {s : ByteArray} {ps : List ByteArray} (h : ps.map (·.data.toList) = splitC 46 s.data.toList) : ∀ p ∈ ps, p.size ≤ s.size := by
  have key : ∀ (l : List UInt8) (x : List UInt8), x ∈ splitC 46 l → x.length ≤ l.length := by
    intro l
    induction l with
    | nil => intro x hx; simp [splitC] at hx; subst hx; simp
    | cons b l ih =>
      intro x hx
      unfold splitC at hx
      split at hx
      · rcases List.mem_cons.1 hx with rfl | hx
        · simp
        · have := ih x hx; simp; omega
      · split at hx
        · rename_i h' t' hs
          rcases List.mem_cons.1 hx with rfl | hx
          · have := ih h' (by rw [hs]; simp); simp; omega
          · have := ih x (by rw [hs]; simp [hx]); simp; omega
        · simp at hx; subst hx; simp
  intro p hp
  have h1 : p.data.toList ∈ splitC 46 s.data.toList := by rw [← h]; exact List.mem_map_of_mem hp
  have := key _ _ h1
  exact this
end Go.Proofs.YtgjgafibipepeaaGreatDoor.Q
namespace Go.Proofs.YtgjgafibipepeaaGreatDoor.Q
open Go.RowKit Go.Proofs.YtgjgafibipepeaaGreatDoorW.PrintWords Go.Deep Go.Maps Go.WideShapes Go.Lib
set_option linter.unusedVariables false
set_option linter.unusedSimpArgs false
attribute [local go_sem] Oper.semAt_some

theorem own_sliceN {W : World} {base e size n : Nat} {v : Value} {xs : List Value} (h : W.ownsRow base e size v n xs) : ∃ a c, v = .slice a n c ∧ n ≤ c := by
  rcases h.2 with ⟨rfl, rfl⟩ | ⟨g, cap, cur, rfl, _, _, h, _⟩
  · exact ⟨_, _, rfl, Nat.le_refl _⟩
  · exact ⟨_, _, rfl, h⟩
theorem own_below {W W' : World} {base e size n : Nat} {v : Value} {xs : List Value} (h : W.ownsRow base e size v n xs) (hB : Below W.heap.size W W') : W'.ownsRow base e size v n xs :=
  ⟨h.1, h.2.imp id fun ⟨g, cap, cur, hv, hb, hg, r⟩ => ⟨g, cap, cur, hv, hb, (hB.block _ (Array.getElem?_eq_some_iff.1 hg).1).trans hg, r⟩⟩
theorem own_blkN {W : World} {base e size n : Nat} {v : Value} {xs : List Value} (h : W.ownsRow base e size v n xs) {g : Nat} (hg : v.ownBlock = some g) : base ≤ g := by
  rcases h.2 with ⟨rfl, _⟩ | ⟨k, cap, cur, rfl, hb, hh, _⟩
  · simp [Value.ownBlock] at hg
  · have : k = g := by simpa [Value.ownBlock] using hg
    subst this; exact hb
/-- an append to a row of one's own, from an earlier world's point of view -/
theorem below_app {w0 A W1 : World} {e k size : Nat} {v : Value} {xs : List Value} {tmp : Obj} (h0 : Below w0.heap.size w0 A) (hrow : A.ownsRow w0.heap.size e size v k xs) (hgrow : (A.alloc tmp).grownBy W1 v.ownBlock) : Below w0.heap.size w0 W1 := by
  have h1 := below_alloc h0 tmp
  refine ⟨hgrow.os.trans h1.os, hgrow.tape.trans h1.tape, hgrow.output.trans h1.output, Nat.le_trans h1.size hgrow.size, fun j hj => ?_⟩
  exact (hgrow.block j (Nat.lt_of_lt_of_le hj h1.size) (fun e' => by have := own_blkN hrow e'.symm; omega)).trans (h1.block j hj)
theorem cell_row {W : World} {g k : Nat} {t : TypeId} {cs : Array Value} {v : Value} (h : W.heap[g]? = some (.cells cs t (0, 0))) (hk : cs[k]? = some v) : W.cell? ⟨g, k, none⟩ = some v := (cell_of_row W g k _ _ _ h).trans hk
theorem set4 {W : World} {g : Nat} {t : TypeId} {a b c d x y z u : Value} (h : W.heap[g]? = some (.cells #[a, b, c, d] t (0, 0))) :
    ((((W.setCell ⟨g, 0, none⟩ x).setCell ⟨g, 1, none⟩ y).setCell ⟨g, 2, none⟩ z).setCell ⟨g, 3, none⟩ u).heap[g]? = some (.cells #[x, y, z, u] t (0, 0)) := by
  have h1 := heap_setCell_same W g 0 _ _ x h
  have h2 := heap_setCell_same _ g 1 _ _ y h1
  have h3 := heap_setCell_same _ g 2 _ _ z h2
  have h4 := heap_setCell_same _ g 3 _ _ u h3
  exact h4
theorem below_set4 {w0 W : World} {g : Nat} {x y z u : Value} (hB : Below w0.heap.size w0 W) (hg : w0.heap.size ≤ g) : Below w0.heap.size w0 ((((W.setCell ⟨g, 0, none⟩ x).setCell ⟨g, 1, none⟩ y).setCell ⟨g, 2, none⟩ z).setCell ⟨g, 3, none⟩ u) :=
  (((hB.setCell (p := ⟨g, 0, none⟩) hg x).setCell (p := ⟨g, 1, none⟩) hg y).setCell (p := ⟨g, 2, none⟩) hg z).setCell (p := ⟨g, 3, none⟩) hg u
set_option maxRecDepth 100000 in
set_option maxHeartbeats 8000000 in
theorem address_calls (s : ByteArray) (w : World) (hs : s.size ≤ 536870912) (hE : Env w) :
    Calls Tryz.prog 109 #[.string s] w fun e w' => e = .returned (.tuple #[((addrB s.data.toList).map quadV).getD noQuad, .bool (addrB s.data.toList).isSome]) ∧ Below w.heap.size w w' := by
  have HE := Lib.hid hE
  obtain ⟨W0, hW0⟩ : ∃ V, w.alloc (.cells #[.int .u8 0, .int .u8 0, .int .u8 0, .int .u8 0] 193) = V := ⟨_, rfl⟩
  have hB0 : Below w.heap.size w W0 := hW0 ▸ below_alloc (Below.refl _ w) _
  have hq0 : W0.heap[w.heap.size]? = some (.cells #[.int .u8 0, .int .u8 0, .int .u8 0, .int .u8 0] 193 (0, 0)) := hW0 ▸ World.alloc_heap_new w _
  have K1 := Lib.hid (split_calls s W0 hs (hE.below hB0))
  have HQ := Lib.hid (And.intro hB0 hq0)
  obtain ⟨r, hr⟩ : ∃ r, addrB s.data.toList = r := ⟨_, rfl⟩
  have HRR := Lib.hid ((addr_split _).trans hr)
  rw [hr]
  clear hE hB0 hq0 hr
  go_enter Tryz.func109, Tryz.ntmps109
  go_wp2_with fail
  clear hW0
  refine K1.out.mono ?_
  rintro e w1 ⟨g, ps, rfl, hps, hg, hB⟩
  have HP := Lib.hid hps
  have HB1 := Lib.hid (below_step HQ.out.1 hB)
  have hq1 := (hB.block _ (Array.getElem?_eq_some_iff.1 HQ.out.2).1).trans HQ.out.2
  have HR := Lib.hid (And.intro hg hq1)
  obtain ⟨L, hL⟩ : ∃ L, ps.map (·.data.toList) = L := ⟨_, rfl⟩
  have hLL : L.length = ps.length := by rw [← hL]; simp
  have HRL := Lib.hid (show addrP L = r by rw [← hL, hps]; exact HRR.out)
  have HL := Lib.hid hL
  have HSZ := Lib.hid (part_size hps)
  obtain ⟨n, hn⟩ : ∃ n, ps.length = n := ⟨_, rfl⟩
  rw [hn] at hLL ⊢
  have HN := Lib.hid (And.intro hn hLL)
  clear hps hB hg hq1 hL hLL hn
  by_cases h4 : n = 4
  · subst h4
    go_wp2
    go_loopw [5, 18] (fun vb vi wr => ∃ (k : Nat) (ns : List Nat), k ≤ 4 ∧ vi = .int .i64 k ∧ Hid (upTo L k = some ns) ∧ Hid (wr.ownsRow w1.heap.size 5 1 vb ns.length (bytesV ns)) ∧ Hid (Below w.heap.size w wr) ∧ Hid (Below w1.heap.size w1 wr)) (fun _ vi _ => 4 - (intOf vi).toNat)
    case atStart => exact ⟨0, [], by omega, rfl, Lib.hid rfl, Lib.hid (World.ownsRow_nil _ _ _ _), Lib.hid HB1.out, Lib.hid (Below.refl _ _)⟩
    case round =>
      obtain ⟨k, ns, hk, rfl, HU, HO, HB, HB'⟩ := hrel
      by_cases hlt : k < 4
      · have z0 : decide (k < 4) = true := decide_eq_true hlt
        obtain ⟨p, hp⟩ : ∃ p, ps[k]? = some p := ⟨_, List.getElem?_eq_getElem (by have := HN.out.1; omega)⟩
        have hgr := (HB'.out.block _ (Array.getElem?_eq_some_iff.1 HR.out.1).1).trans HR.out.1
        have ck := cell_row (k := k) (v := .string p) hgr (by simp [hp])
        have hLk : L.getD k [] = p.data.toList := by rw [← HL.out]; simp [List.getD_eq_getElem?_getD, hp]
        have hps := HSZ.out p (List.mem_of_getElem? hp)
        have HLK := Lib.hid hLk
        have HE1 := Lib.hid (HE.out.below HB.out)
        clear hgr hp hLk
        cases hnum : numB 255 p.data.toList with
        | some m =>
          have hm := (numB_some.1 hnum).2
          have K2 := Lib.hid (number_yes p 255 m wr (by omega) (by decide) HE1.out hnum)
          have HU2 : Hid (upTo L (k + 1) = some (ns ++ [m])) := Lib.hid (by show (upTo L k).bind _ = _; rw [HU.out, Option.bind_some, HLK.out, hnum]; rfl)
          have hnl := upTo_length HU.out
          have m0 : (0 : Int) ≤ (m : Int) := Int.natCast_nonneg _
          have m1 : (m : Int) ≤ 255 := by omega
          have HNL := Lib.hid hnl
          clear hnum hnl
          go_wp2_with fail
          refine K2.out.mono ?_
          rintro e w3 ⟨rfl, hB3⟩
          obtain ⟨av, cv, rfl, hnc⟩ := own_sliceN HO.out
          have HB3 := Lib.hid (And.intro (below_step HB.out hB3) (below_step HB'.out hB3))
          have HO3 := Lib.hid (own_below HO.out hB3)
          obtain ⟨ib, hi, hz0, hz1, hz2⟩ := info_parts infoB
          have HI2 := Lib.hid (And.intro hi (And.intro hz0 (And.intro hz1 hz2)))
          have hb1 : w1.heap.size ≤ (w3.alloc (.cells #[byteV m] 5)).heap.size := by rw [World.size_alloc]; have := HB3.out.2.size; omega
          have HBZ := Lib.hid hb1
          clear hB3 hi hz0 hz1 hz2 hb1
          have ho1 : ∀ u ∈ [byteV m], u.oneCell' = true := by simp [byteV, Value.oneCell']
          have HO1 := Lib.hid ho1
          have HOA := Lib.hid (HO3.out.alloc (.cells #[byteV m] 5))
          have HNW := Lib.hid (World.news_of_block (World.alloc_heap_new w3 (.cells #[byteV m] 5)))
          have hm63 : ns.length + 1 ≤ maxLen := by unfold maxLen; have := HNL.out; omega
          have HM63 := Lib.hid hm63
          have hby : (ns.length + 1) * 1 ≤ 140737488355328 := by have := HNL.out; omega
          have HBY := Lib.hid hby
          clear ho1 hm63 hby
          go_wp2_with (at_builtin; (refine wpList_append_own _ rfl (.tmp 30) (.tmp 33) 114 rfl w1.heap.size 5 ib (.int .u8 0) 1 1 Tryz.underlying114 HI2.out.1 HI2.out.2.1 HI2.out.2.2.1 HI2.out.2.2.2 rfl (by decide) (.slice av ns.length cv) ns.length (bytesV ns) rfl HOA.out ⟨w3.heap.size, 0, none⟩ 1 1 [byteV m] rfl rfl HNW.out HO1.out HM63.out HBY.out HBZ.out ?_; intro v' W5 hown' hgrow _; have HA := Lib.hid (And.intro (show W5.ownsRow w1.heap.size 5 1 v' (ns ++ [m]).length (bytesV (ns ++ [m])) by rw [List.length_append]; simpa [bytesV] using hown') (And.intro (below_step HB1.out (below_app HB3.out.2 HO3.out hgrow)) (below_app HB3.out.2 HO3.out hgrow))); clear hown' hgrow))
          exact ⟨⟨k + 1, ns ++ [m], by omega, by go_num, HU2, Lib.hid HA.out.1, Lib.hid HA.out.2.1, Lib.hid HA.out.2.2⟩, by simp [intOf]; omega⟩
        | none =>
          have K2 := Lib.hid (number_no p 255 wr (by omega) (by decide) HE1.out hnum)
          have hx : r = none := HRL.out.symm.trans (by rw [addrP_upTo L HN.out.2, upTo_none (k := k + 1) (by show (upTo L k).bind _ = _; rw [HU.out, Option.bind_some, HLK.out, hnum]; rfl) (by omega)]; rfl)
          subst hx
          clear hnum
          go_wp2_with fail
          refine K2.out.mono ?_
          rintro e w3 ⟨⟨n3, rfl⟩, hB3⟩
          have HB3 := Lib.hid (below_step HB.out hB3)
          have hq3 := (hB3.block _ (Nat.lt_of_lt_of_le (Array.getElem?_eq_some_iff.1 HR.out.2).1 HB'.out.size)).trans ((HB'.out.block _ (Array.getElem?_eq_some_iff.1 HR.out.2).1).trans HR.out.2)
          have HQ3 := Lib.hid hq3
          have c0 := cell_row (k := 0) (v := .int .u8 0) hq3 rfl
          have c1 := cell_row (k := 1) (v := .int .u8 0) hq3 rfl
          have c2 := cell_row (k := 2) (v := .int .u8 0) hq3 rfl
          have c3 := cell_row (k := 3) (v := .int .u8 0) hq3 rfl
          have f0 := frozen_of_row w3 w.heap.size 0 _ _ hq3
          have f1 := frozen_of_row w3 w.heap.size 1 _ _ hq3
          have f2 := frozen_of_row w3 w.heap.size 2 _ _ hq3
          have f3 := frozen_of_row w3 w.heap.size 3 _ _ hq3
          clear hB3 hq3 ck
          go_wp2
          have hh := set4 HQ3.out (x := .int .u8 0) (y := .int .u8 0) (z := .int .u8 0) (u := .int .u8 0)
          have d0 := cell_row (k := 0) (v := .int .u8 0) hh rfl
          have d1 := cell_row (k := 1) (v := .int .u8 0) hh rfl
          have d2 := cell_row (k := 2) (v := .int .u8 0) hh rfl
          have d3 := cell_row (k := 3) (v := .int .u8 0) hh rfl
          refine bodyPost_ret (v := .tuple #[noQuad, .bool false]) (by simp [results, Tryz.results109, go_sem, d0, d1, d2, d3, noQuad]) rfl ⟨rfl, ?_⟩
          exact below_set4 HB3.out (Nat.le_refl _)
      · obtain rfl : k = 4 := by omega
        obtain ⟨a, b, c, d, rfl⟩ : ∃ a b c d, ns = [a, b, c, d] := by
          match ns, upTo_length HU.out with
          | [a, b, c, d], _ => exact ⟨a, b, c, d, rfl⟩
        have hx : r = some (a, b, c, d) := HRL.out.symm.trans (by rw [addrP_upTo L HN.out.2, HU.out]; rfl)
        subst hx
        have hn4 := HO.out
        rcases hn4.2 with ⟨_, h0⟩ | ⟨g2, cp, cur, rfl, hg2, hb2, hle, hmx, hcs, htk⟩
        · simp at h0
        have hle : 4 ≤ cp := by simpa using hle
        have htk : cur.toList.take 4 = [byteV a, byteV b, byteV c, byteV d] := by simpa [bytesV] using htk
        have hcur : ∀ j v, [byteV a, byteV b, byteV c, byteV d][j]? = some v → wr.cell? ⟨g2, j, none⟩ = some v := fun j v hj => by
          refine cell_row hb2 ?_
          rw [← htk] at hj
          have hj4 : j < 4 := by have := (List.getElem?_eq_some_iff.1 hj).1; rw [List.length_take] at this; omega
          rw [List.getElem?_take_of_lt hj4] at hj
          rw [← Array.getElem?_toList]; exact hj
        have e0 := hcur 0 (.int .u8 a) rfl
        have e1 := hcur 1 (.int .u8 b) rfl
        have e2 := hcur 2 (.int .u8 c) rfl
        have e3 := hcur 3 (.int .u8 d) rfl
        have hq3 := (HB'.out.block _ (Array.getElem?_eq_some_iff.1 HR.out.2).1).trans HR.out.2
        have HQ3 := Lib.hid hq3
        have c0 := cell_row (k := 0) (v := .int .u8 0) hq3 rfl
        have c1 := cell_row (k := 1) (v := .int .u8 0) hq3 rfl
        have c2 := cell_row (k := 2) (v := .int .u8 0) hq3 rfl
        have c3 := cell_row (k := 3) (v := .int .u8 0) hq3 rfl
        have f0 := frozen_of_row wr w.heap.size 0 _ _ hq3
        have f1 := frozen_of_row wr w.heap.size 1 _ _ hq3
        have f2 := frozen_of_row wr w.heap.size 2 _ _ hq3
        have f3 := frozen_of_row wr w.heap.size 3 _ _ hq3
        have hat : ∀ W, (Instr.arrayAt 193 (.slice (some ⟨g2, 0, none⟩) 4 cp)).run Tryz.prog W = .ok (.pointer (some ⟨g2, 0, none⟩)) W := fun W => run_arrayAt W 193 _ 4 _ 4 cp Tryz.underlying193 (by omega)
        clear hn4 hg2 hb2 hmx hcs htk hcur hq3
        go_wp2
        have hh := set4 HQ3.out (x := .int .u8 a) (y := .int .u8 b) (z := .int .u8 c) (u := .int .u8 d)
        have d0 := cell_row (k := 0) (v := .int .u8 a) hh rfl
        have d1 := cell_row (k := 1) (v := .int .u8 b) hh rfl
        have d2 := cell_row (k := 2) (v := .int .u8 c) hh rfl
        have d3 := cell_row (k := 3) (v := .int .u8 d) hh rfl
        refine bodyPost_ret (v := .tuple #[quadV (a, b, c, d), .bool true]) (by simp [results, Tryz.results109, go_sem, d0, d1, d2, d3, quadV, byteV]) rfl ⟨rfl, ?_⟩
        exact below_set4 HB.out (Nat.le_refl _)
  · have z1 : ((n : Int) == 4) = false := beq_eq_false_iff_ne.2 (by omega)
    have z2 : ((n : Int) != 4) = true := bne_iff_ne.2 (by omega)
    have hx : r = none := HRL.out.symm.trans (addrP_other L (by rw [HN.out.2]; exact h4))
    subst hx
    have c0 := cell_row (k := 0) (v := .int .u8 0) HR.out.2 rfl
    have c1 := cell_row (k := 1) (v := .int .u8 0) HR.out.2 rfl
    have c2 := cell_row (k := 2) (v := .int .u8 0) HR.out.2 rfl
    have c3 := cell_row (k := 3) (v := .int .u8 0) HR.out.2 rfl
    have f0 := frozen_of_row w1 w.heap.size 0 _ _ HR.out.2
    have f1 := frozen_of_row w1 w.heap.size 1 _ _ HR.out.2
    have f2 := frozen_of_row w1 w.heap.size 2 _ _ HR.out.2
    have f3 := frozen_of_row w1 w.heap.size 3 _ _ HR.out.2
    clear h4
    go_wp2
    have hh := set4 HR.out.2 (x := .int .u8 0) (y := .int .u8 0) (z := .int .u8 0) (u := .int .u8 0)
    have d0 := cell_row (k := 0) (v := .int .u8 0) hh rfl
    have d1 := cell_row (k := 1) (v := .int .u8 0) hh rfl
    have d2 := cell_row (k := 2) (v := .int .u8 0) hh rfl
    have d3 := cell_row (k := 3) (v := .int .u8 0) hh rfl
    refine bodyPost_ret (v := .tuple #[noQuad, .bool false]) (by simp [results, Tryz.results109, go_sem, d0, d1, d2, d3, noQuad]) rfl ⟨rfl, ?_⟩
    exact below_set4 HB1.out (Nat.le_refl _)
end Go.Proofs.YtgjgafibipepeaaGreatDoor.Q
