import Derived.Test.YtkhnjckkjdldbaaDoorD
import Derived.Test.YtkhnjckkjdldbaaDoorShelf
import Derived.WalkKit
import Derived.Handy
import Derived.BigCall
import Derived.Lib.OthersKept
import Derived.WalkLawsBesides
import Derived.WalkSpells
import Derived.Outline
import Derived.WalkSmall
namespace Go.Proofs.YtkhnjckkjdldbaaDoor.Q
open Go.RowKit Go.Proofs.YtkhnjckkjdldbaaDoorW.PrintWords Go.Proofs.YtkhnjckkjdldbaaDoor.Pr
set_option linter.unusedVariables false
set_option linter.unusedSimpArgs false

/-- the two tables that utf8 reads -/
abbrev Tabs (w : World) : Prop := Lib.Utf8Tabs 0 1 w
theorem get_out (t : ByteArray) (j : Nat) (h : ¬ j < t.size) : t.get! j = 0 := by
  cases t with
  | mk d =>
    have h' : ¬ j < d.size := h
    simp [ByteArray.get!, h']; rfl
theorem extract_get (s : ByteArray) (i k : Nat) (hi : i ≤ s.size) : (s.extract i s.size).get! k = s.get! (i + k) := by
  by_cases h : i + k < s.size
  · rw [Utf8W.get!_of_lt _ _ (by rw [ByteArray.size_extract]; omega), Utf8W.get!_of_lt _ _ h]
    exact ByteArray.getElem_extract _
  · rw [get_out _ _ (by rw [ByteArray.size_extract]; omega), get_out _ _ (by omega)]
theorem decode_rest (s : ByteArray) (i : Nat) (hi : i < s.size) : Lib.decodeGo (s.extract i s.size) = Utf8.decode s i := by
  have hz : (s.extract i s.size).size = s.size - i := by rw [ByteArray.size_extract]; omega
  unfold Lib.decodeGo
  rw [if_neg (by omega), Lib.decode_at, Lib.decode_at, hz]
  simp only [extract_get s i _ (Nat.le_of_lt hi), Nat.add_zero, Nat.zero_add, Nat.sub_zero]
theorem may_calls (c n : Int) (w : World) : Calls Tryd.prog 53 #[.int .i32 c, .int .i64 n] w fun e w' => e = .returned (.bool (mayB c n)) ∧ Below w.heap.size w w' :=
  (path_may.calls 5 c n _ w (may_f c n)).mono fun e w' h => ⟨h.1, h.2.below⟩
def faultV (s : ByteArray) : Int := match nameFault s with
  | none => -1
  | some j => j
theorem faultV_special {s : ByteArray} (h : special s) : faultV s = 0 := by unfold faultV nameFault; rw [if_pos h]; rfl
theorem faultV_at {s : ByteArray} (h : ¬ special s) {i : Nat} (hb : bad s 0 = some i) (hi : i < 24) : faultV s = i := by unfold faultV nameFault; rw [if_neg h, hb]; simp [hi]
theorem faultV_long {s : ByteArray} (h : ¬ special s) {i : Nat} (hb : bad s 0 = bad s i) (hi : 24 ≤ i ∨ ¬ i < s.size) (hs : 24 < s.size) : faultV s = 24 := by
  unfold faultV nameFault; rw [if_neg h, hb]
  cases h2 : bad s i with
  | none => simp [hs]
  | some j =>
    have := bad_lt h2
    rcases hi with hi | hi
    · simp [show ¬ j < 24 by omega]
    · omega
theorem faultV_none {s : ByteArray} (h : ¬ special s) {i : Nat} (hb : bad s 0 = bad s i) (hi : ¬ i < s.size) (hs : ¬ 24 < s.size) : faultV s = -1 := by
  unfold faultV nameFault; rw [if_neg h, hb, bad_out hi]; simp [hs]
theorem ret_i64 {a b : Int} (h : a = b) : Ending.returned (.int .i64 a) = .returned (.int .i64 b) := by rw [h]
theorem tabs_below {w w' : World} (h : Tabs w) (hb : Below w.heap.size w w') : Tabs w' := Utf8Tabs_below h hb
theorem tabs_from {w0 w' : World} (h : Tabs w0) (hb : Below w0.heap.size w0 w') : Tabs w' := Utf8Tabs_below h hb
set_option maxHeartbeats 4000000 in
set_option maxRecDepth 1000000 in
theorem fault_calls (s : ByteArray) (w : World) (hs : s.size ≤ 4294967296) (hT : Tabs w) :
    Calls Tryd.prog 37 #[.string s] w fun e w' => e = .returned (.int .i64 (faultV s)) ∧ Below w.heap.size w w' := by
  have HT := Lib.hid hT
  clear hT
  have hz := toList_nil_iff s
  by_cases c0 : s.toList = []
  · have F := Lib.hid (faultV_special (.inl c0))
    have c0' : s.toList.isEmpty = true := by rw [c0]; rfl
    clear hz
    go_enter Tryd.func37, Tryd.ntmps37
    go_wp2
    go_ret
    exact ⟨ret_i64 F.out.symm, Below.refl _ _⟩
  have c0' : s.toList.isEmpty = false := by simpa using c0
  by_cases c1 : s.toList = [46]
  · have F := Lib.hid (faultV_special (.inr (.inl c1)))
    have c1' : (s.toList == [46]) = true := beq_iff_eq.mpr c1
    have c0n : ¬ s.toList = [] := c0
    clear hz c0
    go_enter Tryd.func37, Tryd.ntmps37
    go_wp2
    go_ret
    exact ⟨ret_i64 F.out.symm, Below.refl _ _⟩
  have c1' : (s.toList == [46]) = false := beq_eq_false_iff_ne.mpr c1
  by_cases c2 : s.toList = [46, 46]
  · have F := Lib.hid (faultV_special (.inr (.inr c2)))
    have c2' : (s.toList == [46, 46]) = true := beq_iff_eq.mpr c2
    clear hz
    go_enter Tryd.func37, Tryd.ntmps37
    go_wp2
    go_ret
    exact ⟨ret_i64 F.out.symm, Below.refl _ _⟩
  have c2' : (s.toList == [46, 46]) = false := beq_eq_false_iff_ne.mpr c2
  have NS : Hid (¬ special s) := Lib.hid (by rintro (h | h | h); exact c0 h; exact c1 h; exact c2 h)
  clear hz
  go_enter Tryd.func37, Tryd.ntmps37
  go_wp2
  clear c0 c0' c1 c1' c2 c2'
  go_loopw [] (fun wr => ∃ pos : Nat, Hid (bad s 0 = bad s pos) ∧ wr.heap[w.heap.size]? = some (.stringIter s pos) ∧ Hid (Below w.heap.size w wr)) (fun wr => s.size - wr.iterPos w.heap.size)
  case atStart =>
    exact ⟨0, Lib.hid rfl, World.iter_heap w s 0, Lib.hid ((Below.refl _ w).alloc (Nat.le_refl _) _)⟩
  case round =>
    obtain ⟨pos, HBd, hit, HB⟩ := hrel
    have hsz : w.heap.size < wr.heap.size := (Array.getElem?_eq_some_iff.1 hit).1
    by_cases hp : pos < s.size
    · have hnx : ∀ ty, (Instr.next (.pointer (some ⟨w.heap.size, 0, none⟩)) true ty).run Tryd.prog wr = _ := fun ty => Lib.run_next_any_at wr w.heap.size s pos ty hit hp
      have hit2 := Lib.iterAt_heap wr w.heap.size s pos (pos + (Utf8.decode s pos).2) hit
      have hb2 := Lib.below_iterAt HB.out (k := w.heap.size) (Nat.le_refl _) s (pos + (Utf8.decode s pos).2)
      have HB2 := Lib.hid hb2
      have HI := Lib.hid hit
      by_cases h24 : pos < 24
      · obtain ⟨W, hW⟩ : ∃ V, wr.iterAt w.heap.size s (pos + (Utf8.decode s pos).2) = V := ⟨_, rfl⟩
        rw [hW] at hnx hit2 HB2
        have KD := Tryd.utf8_DecodeRuneInString (s.extract pos s.size) W (tabs_from HT.out HB2.out)
        rw [decode_rest s pos hp] at KD
        have HKD := Lib.hid KD
        have OK : Hid (okAt s pos = mayB (Utf8.decode s pos).1 (Utf8.decode s pos).2) := Lib.hid rfl
        have HWD : Hid (pos + (Utf8.decode s pos).2 = pos + wd s pos) := Lib.hid rfl
        have HP := Lib.hid (wd_pos (s := s) (i := pos))
        have HIT2 := Lib.hid hit2
        rw [HWD.out] at HIT2
        obtain ⟨c, hc⟩ : ∃ c, (Utf8.decode s pos).1 = c := ⟨_, rfl⟩
        obtain ⟨n, hn⟩ : ∃ c, (Utf8.decode s pos).2 = c := ⟨_, rfl⟩
        rw [hc, hn] at HKD OK
        rw [hc] at hnx
        clear KD hb2 hit hit2 hc hn hW HWD
        go_wp2_with fail
        refine HKD.out.mono ?_
        rintro e W1 ⟨rfl, hB1⟩
        have HB3 := Lib.hid (below_step HB2.out hB1)
        have hit3 := (hB1.block _ (Array.getElem?_eq_some_iff.1 HIT2.out).1).trans HIT2.out
        have HIT3 := Lib.hid hit3
        clear hB1 hit3 hnx
        go_wp2_with fail
        refine (may_calls c n W1).mono ?_
        rintro e W2 ⟨rfl, hB2⟩
        have HB4 := Lib.hid (below_step HB3.out hB2)
        have hit4 := (hB2.block _ (Array.getElem?_eq_some_iff.1 HIT3.out).1).trans HIT3.out
        rw [← OK.out]
        have ok2 := OK.out
        cases hok : okAt s pos with
        | true =>
          have HBN : Hid (bad s 0 = bad s (pos + wd s pos)) := Lib.hid (by rw [HBd.out, bad_no hp hok])
          have hm1 := iterPos_of hit4
          have hm2 := iterPos_of HI.out
          have HM := Lib.hid (And.intro hm1 hm2)
          have HIT4 := Lib.hid hit4
          clear hok ok2 hB2 hit4 hm1 hm2
          go_wp2
          go_roundw
          case rel => exact ⟨pos + wd s pos, HBN, HIT4.out, HB4⟩
          case measure => rw [HM.out.1, HM.out.2]; have := HP.out; omega
        | false =>
          have F := Lib.hid (faultV_at NS.out (HBd.out.trans (bad_yes hp hok)) h24)
          clear hok ok2 hB2 hit4
          go_wp2
          go_ret
          exact ⟨ret_i64 F.out.symm, HB4.out⟩
      · have F := Lib.hid (faultV_long NS.out HBd.out (.inl (by omega)) (by omega))
        clear hit hb2 hit2
        go_wp2
        go_ret
        exact ⟨ret_i64 F.out.symm, HB2.out⟩
    · have hnx : ∀ ty, (Instr.next (.pointer (some ⟨w.heap.size, 0, none⟩)) true ty).run Tryd.prog wr = _ := fun ty => Lib.run_next_end_at wr w.heap.size s pos ty hit hp
      clear hit
      by_cases h24 : 24 < s.size
      · have F := Lib.hid (faultV_long NS.out HBd.out (.inr hp) h24)
        go_wp2
        go_ret
        exact ⟨ret_i64 F.out.symm, HB.out⟩
      · have F := Lib.hid (faultV_none NS.out HBd.out hp h24)
        go_wp2
        go_ret
        exact ⟨ret_i64 F.out.symm, HB.out⟩
end Go.Proofs.YtkhnjckkjdldbaaDoor.Q
