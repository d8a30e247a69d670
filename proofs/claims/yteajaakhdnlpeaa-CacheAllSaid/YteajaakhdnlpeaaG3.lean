import Derived.Test.YteajaakhdnlpeaaG2
namespace Go.Proofs.Yteajaakhdnlpeaa.Q
open Go.RowKit Go.Shelf Go.Proofs.YteajaakhdnlpeaaW.PrintWords Go.Deep
set_option linter.unusedVariables false
set_option linter.unusedSimpArgs false
attribute [local go_sem] Oper.semAt_some
set_option maxRecDepth 100000 in
set_option maxHeartbeats 16000000 in
theorem all_yes (m : Nat) (lv : Int) (cl : Bool) (A B : Option Addr) (ca cb : Nat) (l more : List Int) (w : World) (hA : Rd w A l) (hM : Rd w B more) (hca : l.length ≤ ca) (s : Int) (hs : IntKind.i64.wrap ((l.length : Int) + (more.length : Int)) = s) (h : s ≤ 4194304) (hm : m ≤ 64) :
    Calls Try.prog 5 #[.int .i64 m, .slice A l.length ca, .slice B more.length cb, .int .i64 lv, .bool cl] w fun e w' => e = .returned (.bool true) ∧ Below w.heap.size w w' := by
  have h1 := hA.1
  have h2 := hM.1
  have HA := Lib.hid hA
  have HM := Lib.hid hM
  clear hA hM
  refine (callsIn_wide (n := 3)).1 ?_
  refine callsIn_of_wp_marks Try.func5 rfl trivial ?_ rfl
  simp only [Try.ntmps5, List.size_toArray, List.length_cons, List.length_nil, Nat.reduceAdd, Nat.reduceSub, Array.replicate_succ, Array.replicate_zero, List.push_toArray, List.append_toArray, List.nil_append, List.cons_append]
  gi_wp2_with fail
  have bL := (Boxed.new w 3 (.int .i64 lv)).alloc (.cells #[.bool false] 4)
  have bR := Boxed.new (w.alloc (.cells #[.int .i64 lv] 3)) 4 (.bool false)
  have hB0 : Below w.heap.size w ((w.alloc (.cells #[.int .i64 lv] 3)).alloc (.cells #[.bool false] 4)) := below_alloc (below_alloc (Below.refl _ w) _) _
  obtain ⟨W0, hW0⟩ : ∃ W, (w.alloc (.cells #[.int .i64 lv] 3)).alloc (.cells #[.bool false] 4) = W := ⟨_, rfl⟩
  rw [World.size_alloc] at bR
  rw [hW0] at bL bR hB0 ⊢
  clear hW0
  refine ⟨trivial, (callsIn_wide.2 (works_calls W0)).mono ?_⟩
  rintro e w1 ⟨rfl, hB⟩
  have bL1 : Boxed w1 w.heap.size 3 (.int .i64 lv) := (hB.block _ bL.lt).trans bL
  have bR1 : Boxed w1 (w.heap.size + 1) 4 (.bool false) := (hB.block _ bR.lt).trans bR
  have hB1 := below_then hB0 hB0.size hB
  have S1 := Lib.hid (And.intro bL1 (And.intro bR1 hB1))
  clear bL bR hB0 hB bL1 bR1 hB1
  gi_wp2_with fail
  refine ⟨trivial, (callsIn_wide.2 (new_int m w1 (by omega))).mono ?_⟩
  rintro e w2 ⟨rfl, hr, hB⟩
  have S2 : Hid (Frm w w2 lv w1.heap.size m []) := Lib.hid ⟨below_then S1.out.2.2 S1.out.2.2.size hB, (hB.block _ S1.out.1.lt).trans S1.out.1, (hB.block _ S1.out.2.1.lt).trans S1.out.2.1, by simpa using hr, S1.out.2.1.lt⟩
  obtain ⟨b, hb⟩ : ∃ b, w1.heap.size = b := ⟨_, rfl⟩
  rw [hb] at S2 ⊢
  clear hr hB hb S1
  gi_wp2_with fail
  gi_loopw [14] (fun v wr => ∃ k : Nat, k ≤ l.length ∧ v = .int .i64 k ∧ Hid (Frm w wr lv b m (lastN m (ints (l.take k))))) (fun v _ => l.length - (intOf v).toNat)
  case atStart => exact ⟨0, by omega, rfl, Lib.hid (by simpa [ints, lastN] using S2.out)⟩
  case round =>
    clear S2
    obtain ⟨k, hk, rfl, S⟩ := hrel
    by_cases hlt : k < l.length
    · obtain ⟨a, rfl, hc⟩ := HA.out.2 (by omega)
      have x0 := pw_cell_below S.out.below (hc k hlt)
      have HT := Lib.hid (take_more l k 0 hlt)
      obtain ⟨y, hy⟩ : ∃ y, l.getD k 0 = y := ⟨_, rfl⟩
      rw [hy] at x0 HT
      have K := Lib.hid (put_int b m _ y wr S.out.ring)
      clear hc hy
      gi_wp2_with fail
      refine ⟨trivial, (callsIn_wide.2 K.out).mono ?_⟩
      rintro e w3 ⟨rfl, hr, ho⟩
      rw [push_last, show ints (l.take k) ++ [.int .i64 y] = ints (l.take (k + 1)) by rw [HT.out]; simp [ints]] at hr
      have S3 := Lib.hid (S.out.only hr ho)
      clear hr ho S x0 HT K
      gi_wp2
      go_roundw
      case rel => exact ⟨k + 1, by omega, by go_num, S3⟩
      case measure => simp [intOf]; omega
    · obtain rfl : k = l.length := by omega
      rw [List.take_length] at S
      have KA := Lib.hid (fun W hW => all_calls b m (lastN m l) W hW)
      by_cases hml : l.length ≤ m
      · have HRD : Hid (∀ W, Below w.heap.size w W → Rd W A (lastN m l)) := Lib.hid (fun W hW => by rw [lastN_all m l hml]; exact HA.out.below hW)
        have HN : Hid ((lastN m l).length = l.length) := Lib.hid (by rw [lastN_all m l hml])
        gi_wp2_with fail
        have bW := Boxed.new wr 32 (.slice A l.length ca)
        have S3 := S.out.to (below_alloc (Below.refl wr.heap.size wr) (.cells #[.slice A l.length ca] 32))
        have lbb : b < wr.heap.size := S.out.ring.lt
        obtain ⟨e0, he0⟩ : ∃ e, wr.heap.size = e := ⟨_, rfl⟩
        obtain ⟨W3, hW3⟩ : ∃ W, wr.alloc (.cells #[.slice A l.length ca] 32) = W := ⟨_, rfl⟩
        rw [hW3] at bW S3 ⊢
        rw [he0] at bW lbb ⊢
        have T3 := Lib.hid (And.intro bW S3)
        have le3 : e0 < W3.heap.size := bW.lt
        clear bW S3 S hW3 he0
        refine ⟨trivial, (callsIn_wide.2 (KA.out W3 (by have := T3.out.2.ring; rw [show lastN m (ints l) = ints (lastN m l) from lastN_map _ _ _] at this; exact this))).mono ?_⟩
        rintro e w4 ⟨c, sv, rfl, lc, cc, hI, hB⟩
        have S4 := T3.out.2.to hB
        have cll : c < w4.heap.size := World.block_lt_of_cell? w4 ⟨c, 0, none⟩ cc
        have T4 := Lib.hid (And.intro (show Boxed w4 e0 32 _ from (hB.block _ le3).trans T3.out.1) (And.intro cc hI))
        have HS4 := Lib.hid S4
        have lo3 : b < W3.heap.size := by omega
        obtain ⟨lo, hlo⟩ : ∃ lo, W3.heap.size = lo := ⟨_, rfl⟩
        obtain ⟨hi4, hhi⟩ : ∃ hi, w4.heap.size = hi := ⟨_, rfl⟩
        rw [hlo] at lo3 lc T4 le3
        rw [hhi] at T4 cll
        have hs4 := Lib.hid hhi
        clear hB cc hI S4 T3 KA hlo hhi
        cases cl with
        | true =>
          gi_wp2_with fail
          refine ⟨trivial, (callsIn_wide.2 (clear_int b m _ w4 HS4.out.ring)).mono ?_⟩
          rintro e w5 ⟨rfl, hr, ho⟩
          have S5 : Hid (∃ xs, Frm w w5 lv b m xs) := Lib.hid ⟨_, HS4.out.only hr ho⟩
          have T5 := Lib.hid (And.intro (show Boxed w5 e0 32 _ from (ho.block _ T4.out.1.lt (by omega)).trans T4.out.1) (And.intro (ho.cell T4.out.2.1 (by show ¬ c = b; omega)) (T4.out.2.2.keep (fun j hj hj2 => ho.block j (by have := hs4.out; omega) (by omega)) (Nat.le_refl _))))
          have z5 : hi4 ≤ w5.heap.size := by have := ho.size; have := hs4.out; omega
          clear hr ho HS4 T4
          gi_wp2_with fail
          rename_i K aK
          have HX := Lib.hid aK
          clear aK
          gi_loopw [17] (fun v wr => ∃ k : Nat, k ≤ more.length ∧ v = .int .i64 k ∧ Hid (∃ xs, Frm w wr lv b m xs) ∧ Hid (Boxed wr e0 32 (.slice A l.length ca) ∧ wr.cell? ⟨c, 0, none⟩ = some sv ∧ IntsAt lo hi4 wr sv (lastN m l)) ∧ hi4 ≤ wr.heap.size) (fun v _ => more.length - (intOf v).toNat)
          case atStart => exact ⟨0, by omega, rfl, S5, T5, z5⟩
          case round =>
            clear S5 T5 z5
            obtain ⟨k, hk, rfl, S6, T6, z6⟩ := hrel
            by_cases hlt : k < more.length
            · obtain ⟨xs, hS⟩ := S6.out
              obtain ⟨a, rfl, hc⟩ := HM.out.2 (by omega)
              have x0 := pw_cell_below hS.below (hc k hlt)
              obtain ⟨y, hy⟩ : ∃ y, more.getD k 0 = y := ⟨_, rfl⟩
              rw [hy] at x0
              have K := Lib.hid (put_int b m _ y _ hS.ring)
              have HS := Lib.hid hS
              clear hc hy hS S6
              gi_wp2_with fail
              refine ⟨trivial, (callsIn_wide.2 K.out).mono ?_⟩
              rintro e w7 ⟨rfl, hr, ho⟩
              have S7 : Hid (∃ xs, Frm w w7 lv b m xs) := Lib.hid ⟨_, HS.out.only hr ho⟩
              have T7 := Lib.hid (And.intro (show Boxed w7 e0 32 _ from (ho.block _ T6.out.1.lt (by omega)).trans T6.out.1) (And.intro (ho.cell T6.out.2.1 (by show ¬ c = b; omega)) (T6.out.2.2.keep (fun j hj hj2 => ho.block j (by omega) (by omega)) (Nat.le_refl _))))
              have z7 := Nat.le_trans z6 ho.size
              clear hr ho HS T6 x0 K
              gi_wp2
              go_roundw
              case rel => exact ⟨k + 1, by omega, by go_num, S7, T7, z7⟩
              case measure => simp [intOf]; omega
            · obtain rfl : k = more.length := by omega
              obtain ⟨xs, hS⟩ := S6.out
              have HS := Lib.hid hS
              clear hS S6
              gi_wp2_with fail
              refine HX.out _ _ ?_
              exact r21 w _ lv (A) (ca) e0 c lo hi4 sv (lastN m l) HS.out.below HS.out.leave HS.out.res (by rw [HN.out]; exact T6.out.1) (HRD.out _ HS.out.below) (by omega) T6.out.2.1 T6.out.2.2 z6 (by rw [lastN_length]; omega) _ _ _ _ _ _ _ _ _ _ _ _ _ _ _ _ _ _ _ _ _ _ _ _ _ _ _ _ _ _ _ _ _ _ _ _ _ _ _ _ _ _ _ _ _ _ _ _ _ _ _ _ _ _ _ _ _ _ _ _ _ _ _ _ _ _ _ _ _ _ _ _ _ _ _ _ _ _ _ _ _ _ _ _ _ _ _ _ _ _ _ _ _ _ _ _ _ _ _ _ _ _ _ _ _ _ _ _ _ _ _ _ _ _ _ _ _ _ _ _ _ _ _ _ _ _ _ _ _ _ _ _ _ _ _ _ _ _ _ _ _ _ _ _ _ _ _ _ _ _ _ _ _ _ _ _
        | false =>
          have S5 : Hid (∃ xs, Frm w w4 lv b m xs) := Lib.hid ⟨_, HS4.out⟩
          have T5 := T4
          have z5 : hi4 ≤ w4.heap.size := by have := hs4.out; omega
          clear HS4 T4
          gi_wp2_with fail
          rename_i K aK
          have HX := Lib.hid aK
          clear aK
          gi_loopw [17] (fun v wr => ∃ k : Nat, k ≤ more.length ∧ v = .int .i64 k ∧ Hid (∃ xs, Frm w wr lv b m xs) ∧ Hid (Boxed wr e0 32 (.slice A l.length ca) ∧ wr.cell? ⟨c, 0, none⟩ = some sv ∧ IntsAt lo hi4 wr sv (lastN m l)) ∧ hi4 ≤ wr.heap.size) (fun v _ => more.length - (intOf v).toNat)
          case atStart => exact ⟨0, by omega, rfl, S5, T5, z5⟩
          case round =>
            clear S5 T5 z5
            obtain ⟨k, hk, rfl, S6, T6, z6⟩ := hrel
            by_cases hlt : k < more.length
            · obtain ⟨xs, hS⟩ := S6.out
              obtain ⟨a, rfl, hc⟩ := HM.out.2 (by omega)
              have x0 := pw_cell_below hS.below (hc k hlt)
              obtain ⟨y, hy⟩ : ∃ y, more.getD k 0 = y := ⟨_, rfl⟩
              rw [hy] at x0
              have K := Lib.hid (put_int b m _ y _ hS.ring)
              have HS := Lib.hid hS
              clear hc hy hS S6
              gi_wp2_with fail
              refine ⟨trivial, (callsIn_wide.2 K.out).mono ?_⟩
              rintro e w7 ⟨rfl, hr, ho⟩
              have S7 : Hid (∃ xs, Frm w w7 lv b m xs) := Lib.hid ⟨_, HS.out.only hr ho⟩
              have T7 := Lib.hid (And.intro (show Boxed w7 e0 32 _ from (ho.block _ T6.out.1.lt (by omega)).trans T6.out.1) (And.intro (ho.cell T6.out.2.1 (by show ¬ c = b; omega)) (T6.out.2.2.keep (fun j hj hj2 => ho.block j (by omega) (by omega)) (Nat.le_refl _))))
              have z7 := Nat.le_trans z6 ho.size
              clear hr ho HS T6 x0 K
              gi_wp2
              go_roundw
              case rel => exact ⟨k + 1, by omega, by go_num, S7, T7, z7⟩
              case measure => simp [intOf]; omega
            · obtain rfl : k = more.length := by omega
              obtain ⟨xs, hS⟩ := S6.out
              have HS := Lib.hid hS
              clear hS S6
              gi_wp2_with fail
              refine HX.out _ _ ?_
              exact r21 w _ lv (A) (ca) e0 c lo hi4 sv (lastN m l) HS.out.below HS.out.leave HS.out.res (by rw [HN.out]; exact T6.out.1) (HRD.out _ HS.out.below) (by omega) T6.out.2.1 T6.out.2.2 z6 (by rw [lastN_length]; omega) _ _ _ _ _ _ _ _ _ _ _ _ _ _ _ _ _ _ _ _ _ _ _ _ _ _ _ _ _ _ _ _ _ _ _ _ _ _ _ _ _ _ _ _ _ _ _ _ _ _ _ _ _ _ _ _ _ _ _ _ _ _ _ _ _ _ _ _ _ _ _ _ _ _ _ _ _ _ _ _ _ _ _ _ _ _ _ _ _ _ _ _ _ _ _ _ _ _ _ _ _ _ _ _ _ _ _ _ _ _ _ _ _ _ _ _ _ _ _ _ _ _ _ _ _ _ _ _ _ _ _ _ _ _ _ _ _ _ _ _ _ _ _ _ _ _ _ _ _ _ _ _ _ _ _ _
      · obtain ⟨i0, hi, hz0, hz1, hz2⟩ := info_parts infoI
        clear hz0 hz1 hz2
        by_cases hcc : ca = l.length - m
        · have HN : Hid ((lastN m l).length = 0) := Lib.hid (by rw [lastN_length]; omega)
          have HRD : Hid (∀ W, Below w.heap.size w W → Rd W A (lastN m l)) := Lib.hid (fun W hW => ⟨by rw [HN.out]; omega, fun hp => by rw [HN.out] at hp; omega⟩)
          subst hcc
          gi_wp2_with fail
          have bW := Boxed.new wr 32 (.slice A 0 0)
          have S3 := S.out.to (below_alloc (Below.refl wr.heap.size wr) (.cells #[.slice A 0 0] 32))
          have lbb : b < wr.heap.size := S.out.ring.lt
          obtain ⟨e0, he0⟩ : ∃ e, wr.heap.size = e := ⟨_, rfl⟩
          obtain ⟨W3, hW3⟩ : ∃ W, wr.alloc (.cells #[.slice A 0 0] 32) = W := ⟨_, rfl⟩
          rw [hW3] at bW S3 ⊢
          rw [he0] at bW lbb ⊢
          have T3 := Lib.hid (And.intro bW S3)
          have le3 : e0 < W3.heap.size := bW.lt
          clear bW S3 S hW3 he0
          refine ⟨trivial, (callsIn_wide.2 (KA.out W3 (by have := T3.out.2.ring; rw [show lastN m (ints l) = ints (lastN m l) from lastN_map _ _ _] at this; exact this))).mono ?_⟩
          rintro e w4 ⟨c, sv, rfl, lc, cc, hI, hB⟩
          have S4 := T3.out.2.to hB
          have cll : c < w4.heap.size := World.block_lt_of_cell? w4 ⟨c, 0, none⟩ cc
          have T4 := Lib.hid (And.intro (show Boxed w4 e0 32 _ from (hB.block _ le3).trans T3.out.1) (And.intro cc hI))
          have HS4 := Lib.hid S4
          have lo3 : b < W3.heap.size := by omega
          obtain ⟨lo, hlo⟩ : ∃ lo, W3.heap.size = lo := ⟨_, rfl⟩
          obtain ⟨hi4, hhi⟩ : ∃ hi, w4.heap.size = hi := ⟨_, rfl⟩
          rw [hlo] at lo3 lc T4 le3
          rw [hhi] at T4 cll
          have hs4 := Lib.hid hhi
          clear hB cc hI S4 T3 KA hlo hhi
          cases cl with
          | true =>
            gi_wp2_with fail
            refine ⟨trivial, (callsIn_wide.2 (clear_int b m _ w4 HS4.out.ring)).mono ?_⟩
            rintro e w5 ⟨rfl, hr, ho⟩
            have S5 : Hid (∃ xs, Frm w w5 lv b m xs) := Lib.hid ⟨_, HS4.out.only hr ho⟩
            have T5 := Lib.hid (And.intro (show Boxed w5 e0 32 _ from (ho.block _ T4.out.1.lt (by omega)).trans T4.out.1) (And.intro (ho.cell T4.out.2.1 (by show ¬ c = b; omega)) (T4.out.2.2.keep (fun j hj hj2 => ho.block j (by have := hs4.out; omega) (by omega)) (Nat.le_refl _))))
            have z5 : hi4 ≤ w5.heap.size := by have := ho.size; have := hs4.out; omega
            clear hr ho HS4 T4
            gi_wp2_with fail
            rename_i K aK
            have HX := Lib.hid aK
            clear aK
            gi_loopw [17] (fun v wr => ∃ k : Nat, k ≤ more.length ∧ v = .int .i64 k ∧ Hid (∃ xs, Frm w wr lv b m xs) ∧ Hid (Boxed wr e0 32 (.slice A 0 0) ∧ wr.cell? ⟨c, 0, none⟩ = some sv ∧ IntsAt lo hi4 wr sv (lastN m l)) ∧ hi4 ≤ wr.heap.size) (fun v _ => more.length - (intOf v).toNat)
            case atStart => exact ⟨0, by omega, rfl, S5, T5, z5⟩
            case round =>
              clear S5 T5 z5
              obtain ⟨k, hk, rfl, S6, T6, z6⟩ := hrel
              by_cases hlt : k < more.length
              · obtain ⟨xs, hS⟩ := S6.out
                obtain ⟨a, rfl, hc⟩ := HM.out.2 (by omega)
                have x0 := pw_cell_below hS.below (hc k hlt)
                obtain ⟨y, hy⟩ : ∃ y, more.getD k 0 = y := ⟨_, rfl⟩
                rw [hy] at x0
                have K := Lib.hid (put_int b m _ y _ hS.ring)
                have HS := Lib.hid hS
                clear hc hy hS S6
                gi_wp2_with fail
                refine ⟨trivial, (callsIn_wide.2 K.out).mono ?_⟩
                rintro e w7 ⟨rfl, hr, ho⟩
                have S7 : Hid (∃ xs, Frm w w7 lv b m xs) := Lib.hid ⟨_, HS.out.only hr ho⟩
                have T7 := Lib.hid (And.intro (show Boxed w7 e0 32 _ from (ho.block _ T6.out.1.lt (by omega)).trans T6.out.1) (And.intro (ho.cell T6.out.2.1 (by show ¬ c = b; omega)) (T6.out.2.2.keep (fun j hj hj2 => ho.block j (by omega) (by omega)) (Nat.le_refl _))))
                have z7 := Nat.le_trans z6 ho.size
                clear hr ho HS T6 x0 K
                gi_wp2
                go_roundw
                case rel => exact ⟨k + 1, by omega, by go_num, S7, T7, z7⟩
                case measure => simp [intOf]; omega
              · obtain rfl : k = more.length := by omega
                obtain ⟨xs, hS⟩ := S6.out
                have HS := Lib.hid hS
                clear hS S6
                gi_wp2_with fail
                refine HX.out _ _ ?_
                exact r21 w _ lv (A) (0) e0 c lo hi4 sv (lastN m l) HS.out.below HS.out.leave HS.out.res (by rw [HN.out]; exact T6.out.1) (HRD.out _ HS.out.below) (by omega) T6.out.2.1 T6.out.2.2 z6 (by rw [lastN_length]; omega) _ _ _ _ _ _ _ _ _ _ _ _ _ _ _ _ _ _ _ _ _ _ _ _ _ _ _ _ _ _ _ _ _ _ _ _ _ _ _ _ _ _ _ _ _ _ _ _ _ _ _ _ _ _ _ _ _ _ _ _ _ _ _ _ _ _ _ _ _ _ _ _ _ _ _ _ _ _ _ _ _ _ _ _ _ _ _ _ _ _ _ _ _ _ _ _ _ _ _ _ _ _ _ _ _ _ _ _ _ _ _ _ _ _ _ _ _ _ _ _ _ _ _ _ _ _ _ _ _ _ _ _ _ _ _ _ _ _ _ _ _ _ _ _ _ _ _ _ _ _ _ _ _ _ _ _
          | false =>
            have S5 : Hid (∃ xs, Frm w w4 lv b m xs) := Lib.hid ⟨_, HS4.out⟩
            have T5 := T4
            have z5 : hi4 ≤ w4.heap.size := by have := hs4.out; omega
            clear HS4 T4
            gi_wp2_with fail
            rename_i K aK
            have HX := Lib.hid aK
            clear aK
            gi_loopw [17] (fun v wr => ∃ k : Nat, k ≤ more.length ∧ v = .int .i64 k ∧ Hid (∃ xs, Frm w wr lv b m xs) ∧ Hid (Boxed wr e0 32 (.slice A 0 0) ∧ wr.cell? ⟨c, 0, none⟩ = some sv ∧ IntsAt lo hi4 wr sv (lastN m l)) ∧ hi4 ≤ wr.heap.size) (fun v _ => more.length - (intOf v).toNat)
            case atStart => exact ⟨0, by omega, rfl, S5, T5, z5⟩
            case round =>
              clear S5 T5 z5
              obtain ⟨k, hk, rfl, S6, T6, z6⟩ := hrel
              by_cases hlt : k < more.length
              · obtain ⟨xs, hS⟩ := S6.out
                obtain ⟨a, rfl, hc⟩ := HM.out.2 (by omega)
                have x0 := pw_cell_below hS.below (hc k hlt)
                obtain ⟨y, hy⟩ : ∃ y, more.getD k 0 = y := ⟨_, rfl⟩
                rw [hy] at x0
                have K := Lib.hid (put_int b m _ y _ hS.ring)
                have HS := Lib.hid hS
                clear hc hy hS S6
                gi_wp2_with fail
                refine ⟨trivial, (callsIn_wide.2 K.out).mono ?_⟩
                rintro e w7 ⟨rfl, hr, ho⟩
                have S7 : Hid (∃ xs, Frm w w7 lv b m xs) := Lib.hid ⟨_, HS.out.only hr ho⟩
                have T7 := Lib.hid (And.intro (show Boxed w7 e0 32 _ from (ho.block _ T6.out.1.lt (by omega)).trans T6.out.1) (And.intro (ho.cell T6.out.2.1 (by show ¬ c = b; omega)) (T6.out.2.2.keep (fun j hj hj2 => ho.block j (by omega) (by omega)) (Nat.le_refl _))))
                have z7 := Nat.le_trans z6 ho.size
                clear hr ho HS T6 x0 K
                gi_wp2
                go_roundw
                case rel => exact ⟨k + 1, by omega, by go_num, S7, T7, z7⟩
                case measure => simp [intOf]; omega
              · obtain rfl : k = more.length := by omega
                obtain ⟨xs, hS⟩ := S6.out
                have HS := Lib.hid hS
                clear hS S6
                gi_wp2_with fail
                refine HX.out _ _ ?_
                exact r21 w _ lv (A) (0) e0 c lo hi4 sv (lastN m l) HS.out.below HS.out.leave HS.out.res (by rw [HN.out]; exact T6.out.1) (HRD.out _ HS.out.below) (by omega) T6.out.2.1 T6.out.2.2 z6 (by rw [lastN_length]; omega) _ _ _ _ _ _ _ _ _ _ _ _ _ _ _ _ _ _ _ _ _ _ _ _ _ _ _ _ _ _ _ _ _ _ _ _ _ _ _ _ _ _ _ _ _ _ _ _ _ _ _ _ _ _ _ _ _ _ _ _ _ _ _ _ _ _ _ _ _ _ _ _ _ _ _ _ _ _ _ _ _ _ _ _ _ _ _ _ _ _ _ _ _ _ _ _ _ _ _ _ _ _ _ _ _ _ _ _ _ _ _ _ _ _ _ _ _ _ _ _ _ _ _ _ _ _ _ _ _ _ _ _ _ _ _ _ _ _ _ _ _ _ _ _ _ _ _ _ _ _ _ _ _ _ _ _
        · have HN : Hid ((lastN m l).length = l.length - (l.length - m)) := Lib.hid (by rw [lastN_length]; omega)
          have HRD : Hid (∀ W, Below w.heap.size w W → Rd W (Option.map (fun x => x.add (l.length - m)) A) (lastN m l)) := Lib.hid (fun W hW => by
            have hR := HA.out.below hW
            refine ⟨by rw [HN.out]; omega, fun hp => ?_⟩
            rw [HN.out] at hp
            obtain ⟨a, rfl, hcell⟩ := hR.2 (by omega)
            refine ⟨a.add (l.length - m), rfl, fun i hi => ?_⟩
            rw [HN.out] at hi
            rw [Addr.add_add, lastN_getD]
            exact hcell (l.length - m + i) (by omega))
          gi_wp2_with fail
          have bW := Boxed.new wr 32 (.slice (Option.map (fun x => x.add (l.length - m)) A) (l.length - (l.length - m)) (ca - (l.length - m)))
          have S3 := S.out.to (below_alloc (Below.refl wr.heap.size wr) (.cells #[.slice (Option.map (fun x => x.add (l.length - m)) A) (l.length - (l.length - m)) (ca - (l.length - m))] 32))
          have lbb : b < wr.heap.size := S.out.ring.lt
          obtain ⟨e0, he0⟩ : ∃ e, wr.heap.size = e := ⟨_, rfl⟩
          obtain ⟨W3, hW3⟩ : ∃ W, wr.alloc (.cells #[.slice (Option.map (fun x => x.add (l.length - m)) A) (l.length - (l.length - m)) (ca - (l.length - m))] 32) = W := ⟨_, rfl⟩
          rw [hW3] at bW S3 ⊢
          rw [he0] at bW lbb ⊢
          have T3 := Lib.hid (And.intro bW S3)
          have le3 : e0 < W3.heap.size := bW.lt
          clear bW S3 S hW3 he0
          refine ⟨trivial, (callsIn_wide.2 (KA.out W3 (by have := T3.out.2.ring; rw [show lastN m (ints l) = ints (lastN m l) from lastN_map _ _ _] at this; exact this))).mono ?_⟩
          rintro e w4 ⟨c, sv, rfl, lc, cc, hI, hB⟩
          have S4 := T3.out.2.to hB
          have cll : c < w4.heap.size := World.block_lt_of_cell? w4 ⟨c, 0, none⟩ cc
          have T4 := Lib.hid (And.intro (show Boxed w4 e0 32 _ from (hB.block _ le3).trans T3.out.1) (And.intro cc hI))
          have HS4 := Lib.hid S4
          have lo3 : b < W3.heap.size := by omega
          obtain ⟨lo, hlo⟩ : ∃ lo, W3.heap.size = lo := ⟨_, rfl⟩
          obtain ⟨hi4, hhi⟩ : ∃ hi, w4.heap.size = hi := ⟨_, rfl⟩
          rw [hlo] at lo3 lc T4 le3
          rw [hhi] at T4 cll
          have hs4 := Lib.hid hhi
          clear hB cc hI S4 T3 KA hlo hhi
          cases cl with
          | true =>
            gi_wp2_with fail
            refine ⟨trivial, (callsIn_wide.2 (clear_int b m _ w4 HS4.out.ring)).mono ?_⟩
            rintro e w5 ⟨rfl, hr, ho⟩
            have S5 : Hid (∃ xs, Frm w w5 lv b m xs) := Lib.hid ⟨_, HS4.out.only hr ho⟩
            have T5 := Lib.hid (And.intro (show Boxed w5 e0 32 _ from (ho.block _ T4.out.1.lt (by omega)).trans T4.out.1) (And.intro (ho.cell T4.out.2.1 (by show ¬ c = b; omega)) (T4.out.2.2.keep (fun j hj hj2 => ho.block j (by have := hs4.out; omega) (by omega)) (Nat.le_refl _))))
            have z5 : hi4 ≤ w5.heap.size := by have := ho.size; have := hs4.out; omega
            clear hr ho HS4 T4
            gi_wp2_with fail
            rename_i K aK
            have HX := Lib.hid aK
            clear aK
            gi_loopw [17] (fun v wr => ∃ k : Nat, k ≤ more.length ∧ v = .int .i64 k ∧ Hid (∃ xs, Frm w wr lv b m xs) ∧ Hid (Boxed wr e0 32 (.slice (Option.map (fun x => x.add (l.length - m)) A) (l.length - (l.length - m)) (ca - (l.length - m))) ∧ wr.cell? ⟨c, 0, none⟩ = some sv ∧ IntsAt lo hi4 wr sv (lastN m l)) ∧ hi4 ≤ wr.heap.size) (fun v _ => more.length - (intOf v).toNat)
            case atStart => exact ⟨0, by omega, rfl, S5, T5, z5⟩
            case round =>
              clear S5 T5 z5
              obtain ⟨k, hk, rfl, S6, T6, z6⟩ := hrel
              by_cases hlt : k < more.length
              · obtain ⟨xs, hS⟩ := S6.out
                obtain ⟨a, rfl, hc⟩ := HM.out.2 (by omega)
                have x0 := pw_cell_below hS.below (hc k hlt)
                obtain ⟨y, hy⟩ : ∃ y, more.getD k 0 = y := ⟨_, rfl⟩
                rw [hy] at x0
                have K := Lib.hid (put_int b m _ y _ hS.ring)
                have HS := Lib.hid hS
                clear hc hy hS S6
                gi_wp2_with fail
                refine ⟨trivial, (callsIn_wide.2 K.out).mono ?_⟩
                rintro e w7 ⟨rfl, hr, ho⟩
                have S7 : Hid (∃ xs, Frm w w7 lv b m xs) := Lib.hid ⟨_, HS.out.only hr ho⟩
                have T7 := Lib.hid (And.intro (show Boxed w7 e0 32 _ from (ho.block _ T6.out.1.lt (by omega)).trans T6.out.1) (And.intro (ho.cell T6.out.2.1 (by show ¬ c = b; omega)) (T6.out.2.2.keep (fun j hj hj2 => ho.block j (by omega) (by omega)) (Nat.le_refl _))))
                have z7 := Nat.le_trans z6 ho.size
                clear hr ho HS T6 x0 K
                gi_wp2
                go_roundw
                case rel => exact ⟨k + 1, by omega, by go_num, S7, T7, z7⟩
                case measure => simp [intOf]; omega
              · obtain rfl : k = more.length := by omega
                obtain ⟨xs, hS⟩ := S6.out
                have HS := Lib.hid hS
                clear hS S6
                gi_wp2_with fail
                refine HX.out _ _ ?_
                exact r21 w _ lv ((Option.map (fun x => x.add (l.length - m)) A)) ((ca - (l.length - m))) e0 c lo hi4 sv (lastN m l) HS.out.below HS.out.leave HS.out.res (by rw [HN.out]; exact T6.out.1) (HRD.out _ HS.out.below) (by omega) T6.out.2.1 T6.out.2.2 z6 (by rw [lastN_length]; omega) _ _ _ _ _ _ _ _ _ _ _ _ _ _ _ _ _ _ _ _ _ _ _ _ _ _ _ _ _ _ _ _ _ _ _ _ _ _ _ _ _ _ _ _ _ _ _ _ _ _ _ _ _ _ _ _ _ _ _ _ _ _ _ _ _ _ _ _ _ _ _ _ _ _ _ _ _ _ _ _ _ _ _ _ _ _ _ _ _ _ _ _ _ _ _ _ _ _ _ _ _ _ _ _ _ _ _ _ _ _ _ _ _ _ _ _ _ _ _ _ _ _ _ _ _ _ _ _ _ _ _ _ _ _ _ _ _ _ _ _ _ _ _ _ _ _ _ _ _ _ _ _ _ _ _ _
          | false =>
            have S5 : Hid (∃ xs, Frm w w4 lv b m xs) := Lib.hid ⟨_, HS4.out⟩
            have T5 := T4
            have z5 : hi4 ≤ w4.heap.size := by have := hs4.out; omega
            clear HS4 T4
            gi_wp2_with fail
            rename_i K aK
            have HX := Lib.hid aK
            clear aK
            gi_loopw [17] (fun v wr => ∃ k : Nat, k ≤ more.length ∧ v = .int .i64 k ∧ Hid (∃ xs, Frm w wr lv b m xs) ∧ Hid (Boxed wr e0 32 (.slice (Option.map (fun x => x.add (l.length - m)) A) (l.length - (l.length - m)) (ca - (l.length - m))) ∧ wr.cell? ⟨c, 0, none⟩ = some sv ∧ IntsAt lo hi4 wr sv (lastN m l)) ∧ hi4 ≤ wr.heap.size) (fun v _ => more.length - (intOf v).toNat)
            case atStart => exact ⟨0, by omega, rfl, S5, T5, z5⟩
            case round =>
              clear S5 T5 z5
              obtain ⟨k, hk, rfl, S6, T6, z6⟩ := hrel
              by_cases hlt : k < more.length
              · obtain ⟨xs, hS⟩ := S6.out
                obtain ⟨a, rfl, hc⟩ := HM.out.2 (by omega)
                have x0 := pw_cell_below hS.below (hc k hlt)
                obtain ⟨y, hy⟩ : ∃ y, more.getD k 0 = y := ⟨_, rfl⟩
                rw [hy] at x0
                have K := Lib.hid (put_int b m _ y _ hS.ring)
                have HS := Lib.hid hS
                clear hc hy hS S6
                gi_wp2_with fail
                refine ⟨trivial, (callsIn_wide.2 K.out).mono ?_⟩
                rintro e w7 ⟨rfl, hr, ho⟩
                have S7 : Hid (∃ xs, Frm w w7 lv b m xs) := Lib.hid ⟨_, HS.out.only hr ho⟩
                have T7 := Lib.hid (And.intro (show Boxed w7 e0 32 _ from (ho.block _ T6.out.1.lt (by omega)).trans T6.out.1) (And.intro (ho.cell T6.out.2.1 (by show ¬ c = b; omega)) (T6.out.2.2.keep (fun j hj hj2 => ho.block j (by omega) (by omega)) (Nat.le_refl _))))
                have z7 := Nat.le_trans z6 ho.size
                clear hr ho HS T6 x0 K
                gi_wp2
                go_roundw
                case rel => exact ⟨k + 1, by omega, by go_num, S7, T7, z7⟩
                case measure => simp [intOf]; omega
              · obtain rfl : k = more.length := by omega
                obtain ⟨xs, hS⟩ := S6.out
                have HS := Lib.hid hS
                clear hS S6
                gi_wp2_with fail
                refine HX.out _ _ ?_
                exact r21 w _ lv ((Option.map (fun x => x.add (l.length - m)) A)) ((ca - (l.length - m))) e0 c lo hi4 sv (lastN m l) HS.out.below HS.out.leave HS.out.res (by rw [HN.out]; exact T6.out.1) (HRD.out _ HS.out.below) (by omega) T6.out.2.1 T6.out.2.2 z6 (by rw [lastN_length]; omega) _ _ _ _ _ _ _ _ _ _ _ _ _ _ _ _ _ _ _ _ _ _ _ _ _ _ _ _ _ _ _ _ _ _ _ _ _ _ _ _ _ _ _ _ _ _ _ _ _ _ _ _ _ _ _ _ _ _ _ _ _ _ _ _ _ _ _ _ _ _ _ _ _ _ _ _ _ _ _ _ _ _ _ _ _ _ _ _ _ _ _ _ _ _ _ _ _ _ _ _ _ _ _ _ _ _ _ _ _ _ _ _ _ _ _ _ _ _ _ _ _ _ _ _ _ _ _ _ _ _ _ _ _ _ _ _ _ _ _ _ _ _ _ _ _ _ _ _ _ _ _ _ _ _ _ _
end Go.Proofs.Yteajaakhdnlpeaa.Q
