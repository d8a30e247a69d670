import Derived.Test.YtkhnjckkjdldbaaGreatDoorG0
namespace Go.Proofs.YtkhnjckkjdldbaaGreatDoor.Bag
open Go.RowKit Go.Proofs.YtkhnjckkjdldbaaGreatDoorW.PrintWords Go.Deep Go.Maps Go.WideShapes Go.Lib
open Go.Proofs.YtkhnjckkjdldbaaGreatDoor.Pr (S57 k57 z57)
open Go.Proofs.YtkhnjckkjdldbaaGreatDoor.Q
set_option linter.unusedVariables false
set_option linter.unusedSimpArgs false
attribute [local go_sem] Oper.semAt_some
/-! GROWN AND APART, OF LISTS OF Watches (printed by mkkind.py) -/
def mk1Watches (j : Int) : S57 := ⟨(-1000000 - j), 0, ⟨#[]⟩⟩
def mk2Watches (j : Int) : S57 := ⟨(-2000000 - j), 0, ⟨#[]⟩⟩
theorem info1Watches : (Tryz.prog.info? 57).map (fun i => (i.zero, i.size, i.bytes)) = some (some (Value.agg #[.int .i64 0, .int .i8 0, .string ⟨#[]⟩]), 3, 32) := by kernel_rfl
theorem info2Watches : (Tryz.prog.info? 64).map (fun i => (i.zero, i.size, i.bytes)) = some (some (.slice none 0 0), 1, 24) := by kernel_rfl
abbrev BagWatches (w0 W : World) (its : List (Item S57)) : Prop := BagI encW 3 w0.heap.size 57 W its
set_option maxRecDepth 100000 in
set_option maxHeartbeats 8000000 in
theorem grownWatches_calls (w0 W : World) (p cp by_ : Nat) (L : Lists S57) (cs : Array Value) (hB0 : Below w0.heap.size w0 W) (hby : by_ ≤ 24) (hL : L.length ≤ 1000) (hLp : L.length ≤ cp)
    (hout : W.heap[p]? = some (.cells cs 64 (0, 0))) (hcs : ∀ j (hj : j < L.length), cs[j]? = some L[j].1) (hmk : ∀ j (hj : j < L.length), L[j].2 = List.replicate L[j].2.length (mk1Watches j)) (hsm : ∀ j (hj : j < L.length), L[j].2.length ≤ 4294967296)
    (hbag : BagWatches w0 W (L.map fun x => start x.1 x.2)) :
    Calls Tryz.prog 78 #[.slice (some ⟨p, 0, none⟩) L.length cp, .int .i64 by_] W fun e w' => e = .returned (.bool true) ∧ BagWatches w0 w' (L.map fun x => start x.1 x.2) ∧ Below w0.heap.size w0 w' ∧ Only (OwnOf L) W w' := by
  have HOUT := Lib.hid (And.intro hout hcs)
  have HNO := Lib.hid (not_own hbag hout (by decide))
  have HMK := Lib.hid (And.intro hmk hsm)
  have HB0 := Lib.hid hB0
  have hpl := blk_lt' hout
  have HBAG : Hid (∃ its, Under mk2Watches by_ L 0 0 its ∧ BagWatches w0 W its ∧ W.ownsRow W.heap.size 64 1 (.slice none 0 0) 0 ((its.take 0).map Item.m) ∧ Far W its) := Lib.hid ⟨_, Under.start, hbag, World.ownsRow_nil _ _ _ _, Far.start⟩
  obtain ⟨n, hn⟩ : ∃ n, L.length = n := ⟨_, rfl⟩
  have HN := Lib.hid hn
  rw [hn] at hL hLp ⊢
  clear hout hcs hmk hsm hB0 hbag hn
  go_enter Tryz.func78, Tryz.ntmps78
  go_wp2_with fail
  go_loopw [5, 6] (fun vm vi wr => ∃ (x : Int), vi = .int .i64 x ∧ 0 ≤ x ∧ x ≤ (n : Int) ∧ Hid (∃ its, Under mk2Watches by_ L x.toNat 0 its ∧ BagWatches w0 wr its ∧ wr.ownsRow W.heap.size 64 1 vm x.toNat ((its.take x.toNat).map Item.m) ∧ Far W its) ∧ Hid (Below w0.heap.size w0 wr) ∧ Hid (Only (OwnOf L) W wr)) (fun _ vi _ => ((n : Int) - intOf vi).toNat)
  case atStart => exact ⟨0, rfl, by omega, by omega, HBAG, HB0, Lib.hid (Only.refl _ _)⟩
  case round =>
  clear HBAG
  obtain ⟨x, rfl, x0, xn, HU, HB, HK⟩ := hrel
  by_cases c2 : x < (n : Int)
  · have q2 : decide (x < (n : Int)) = true := decide_eq_true c2
    obtain ⟨its, hU, hBG, hrow, hfar⟩ := HU.out
    have hx : x.toNat < L.length := by rw [HN.out]; omega
    have hxi : x.toNat < its.length := by rw [hU.len]; exact hx
    have hblk := HK.out.blk HOUT.out.1 HNO.out
    have o1 : wr.cell? ⟨p, x.toNat, none⟩ = some L[x.toNat].1 := cell_rowK hblk (HOUT.out.2 _ hx)
    obtain ⟨v, hv⟩ : ∃ v, L[x.toNat].1 = v := ⟨_, rfl⟩
    rw [hv] at o1
    have HV := Lib.hid hv
    have HU1 : Hid (∃ its m, Under mk2Watches by_ L x.toNat 0 its ∧ its[x.toNat]? = some m ∧ m.m = v ∧ BagWatches w0 wr its ∧ wr.ownsRow W.heap.size 64 1 u5 x.toNat ((its.take x.toNat).map Item.m) ∧ Far W its) :=
      Lib.hid ⟨its, _, hU, List.getElem?_eq_getElem hxi, (hU.mnow hx rfl).trans hv, hBG, hrow, hfar⟩
    have x0' := eq_true x0
    have c2' := eq_true c2
    clear hU hBG hrow hblk hv HU hxi hfar
    go_wp2_with fail
    go_loopw [7, 8] (fun vm2 vk wr2 => ∃ (k : Int), vk = .int .i64 k ∧ 0 ≤ k ∧ k ≤ (by_ : Int) ∧ Hid (∃ its m, Under mk2Watches by_ L x.toNat k.toNat its ∧ its[x.toNat]? = some m ∧ m.m = vm2 ∧ BagWatches w0 wr2 its ∧ wr2.ownsRow W.heap.size 64 1 u5 x.toNat ((its.take x.toNat).map Item.m) ∧ Far W its) ∧ Hid (Below w0.heap.size w0 wr2) ∧ Hid (Only (OwnOf L) W wr2)) (fun _ vk _ => ((by_ : Int) - intOf vk).toNat)
    case atStart => exact ⟨0, rfl, by omega, by omega, HU1, HB, HK⟩
    case round =>
    clear HU1 HB HK o1
    obtain ⟨k, rfl, k0, kb, HU2, HB2, HK2⟩ := hrel
    by_cases c3 : k < (by_ : Int)
    · have q3 : decide (k < (by_ : Int)) = true := decide_eq_true c3
      have hw2 : IntKind.i64.wrap (-2000000 - x) = -2000000 - x := by rw [IntKind.wrap_i64]; omega
      obtain ⟨its, m, hU, hm, hmv, hBG, hrow, hfar⟩ := HU2.out
      have hxi : x.toNat < its.length := by rw [hU.len]; exact hx
      have hmi : its[x.toNat] = m := by rw [List.getElem?_eq_getElem hxi] at hm; exact Option.some.inj hm
      obtain ⟨W9, hW9⟩ : ∃ V, wr.alloc (.cells #[.int .i64 (-2000000 - x), .int .i8 0, .string ⟨#[]⟩] 57) = V := ⟨_, rfl⟩
      have hB9 : Below wr.heap.size wr W9 := by rw [← hW9]; exact below_alloc (Below.refl _ _) _
      have hz9 : W9.heap[wr.heap.size]? = some (.cells #[.int .i64 (-2000000 - x), .int .i8 0, .string ⟨#[]⟩] 57 (0, 0)) := by rw [← hW9]; exact World.alloc_heap_new wr _
      have hBG9 := hBG.below hB9
      have hG := hBG9.ok x.toNat hxi
      rw [hmi] at hG
      have hlen : (m.xs ++ m.ys).length ≤ 4294967400 := by
        have e1 := hU.xs x.toNat hx
        have e2 := hU.now hx
        rw [hmi] at e1 e2
        rw [List.length_append, e1, e2, List.length_replicate]
        have := HMK.out.2 x.toNat hx
        omega
      have HALL := Lib.hid (And.intro hU (And.intro hm (And.intro hmi (And.intro hB9 (And.intro hBG9 (And.intro hG (And.intro (own_below hrow hB9) hfar)))))))
      have HSW := Lib.hid (Nat.le_trans HK2.out.size hB9.size)
      have HZ9 := Lib.hid hz9
      have HB9 := Lib.hid (below_step HB2.out hB9)
      have HK9 := Lib.hid (HK2.out.then_below hB9)
      have HL := Lib.hid hlen
      have HXI := Lib.hid hxi
      obtain ⟨i0, hi0, hzz⟩ := Option.map_eq_some_iff.1 info1Watches
      simp only [Prod.mk.injEq] at hzz
      obtain ⟨hz0, hz1, hz2⟩ := hzz
      have HI := Lib.hid (And.intro hi0 (And.intro hz0 (And.intro hz1 hz2)))
      subst hmv
      clear hU hm hmi hB9 hz9 hBG hBG9 hG hrow hlen hi0 hz0 hz1 hz2 HU2 hfar
      go_wp2_with (first | (at_builtin; refine wpList_app rfl (.tmp 27) (.tmp 31) 64 rfl 57 i0 _ 3 32 Tryz.underlying64 HI.out.1 HI.out.2.1 HI.out.2.2.1 HI.out.2.2.2 rfl (by decide) w0.heap.size m.m (m.xs ++ m.ys).length ((m.xs ++ m.ys).flatMap encW) rfl HALL.out.2.2.2.2.2.1.rm ⟨wr.heap.size, 0, none⟩ 1 [.int .i64 (-2000000 - x), .int .i8 0, .string ⟨#[]⟩] rfl rfl (World.news_of_block (cs := #[.int .i64 (-2000000 - x), .int .i8 0, .string ⟨#[]⟩]) (t := 57) (fr := (0, 0)) HZ9.out) (by simp [Value.oneCell']) (by have := HL.out; unfold maxLen; omega) (by have := HL.out; omega) HB9.out.size ?_; intro g cap w3 hown hA))
      have hxx : ((x.toNat : Nat) : Int) = x := by omega
      have HU3 : Hid (∃ its2 m2, Under mk2Watches by_ L x.toNat (k + 1).toNat its2 ∧ its2[x.toNat]? = some m2 ∧ m2.m = .slice (some ⟨g, 0, none⟩) ((m.xs ++ m.ys).length + 1) cap ∧ BagWatches w0 w3 its2 ∧ w3.ownsRow W.heap.size 64 1 u5 x.toNat ((its2.take x.toNat).map Item.m) ∧ Far W its2) := Lib.hid (by
        obtain ⟨hU, hm, hmi, hB9, hBG9, hG, hrow, hfar⟩ := HALL.out
        have hg := hU.grow hx (m := .slice (some ⟨g, 0, none⟩) ((m.xs ++ m.ys).length + 1) cap) hm
        rw [hxx] at hg
        have ha := BagI.app (enc := encW) (size := 3) (fun _ => rfl) hBG9 HXI.out (mk2Watches x) (g := g) (cap := cap) (w' := w3) (by rw [hmi]; exact hown) (by rw [hmi]; exact hA)
        rw [hmi] at ha
        refine ⟨its.set x.toNat ⟨m.v, m.xs, .slice (some ⟨g, 0, none⟩) ((m.xs ++ m.ys).length + 1) cap, m.ys ++ [mk2Watches x]⟩, ⟨m.v, m.xs, .slice (some ⟨g, 0, none⟩) ((m.xs ++ m.ys).length + 1) cap, m.ys ++ [mk2Watches x]⟩, ?_, ?_, rfl, ha, ?_, hfar.set HXI.out hmi hA HSW.out⟩
        · rw [show (k + 1).toNat = k.toNat + 1 by omega]; exact hg
        · rw [List.getElem?_set_self HXI.out]
        · rw [List.take_set_of_le (Nat.le_refl _)]
          exact own_otherApp hrow hG.rm hA (by decide))
      have HB3 : Hid (Below w0.heap.size w0 w3) := Lib.hid (below_app HB9.out (fun b hb => (HALL.out.2.2.2.2.2.1.rm.lt hb).1) hA)
      have HK3 : Hid (Only (OwnOf L) W w3) := Lib.hid (only_app HK9.out hA (fun b hb => by
        obtain ⟨hU, hm, hmi, _, _, _, _, hfar⟩ := HALL.out
        have hj := hfar x.toNat HXI.out b (by rw [hmi]; exact hb)
        rcases hj with h | h
        · exact .inl ⟨x.toNat, hx, by rw [← hU.v x.toNat hx]; exact h⟩
        · exact .inr h))
      clear hA hown HALL HB9 HK9 HZ9 HB2 HK2 hW9 hw2
      go_wp2
      go_roundw
      case measure => simp [intOf]; omega
      case rel => exact ⟨k + 1, rfl, by omega, by omega, Lib.hid (by have h := HU3.out; simp only [List.length_append] at h; exact h), HB3, HK3⟩
    · have q3 : decide (k < (by_ : Int)) = false := decide_eq_false c3
      obtain rfl : k = (by_ : Int) := by omega
      obtain ⟨A7, n7, c7, h7⟩ : ∃ A n c, u7 = .slice A n c := by
        obtain ⟨its, m, hU, hm, hmv, hBG, hrow, hfar⟩ := HU2.out
        have hxi : x.toNat < its.length := by rw [hU.len]; exact hx
        have := (hBG.ok x.toNat hxi).rm
        rw [show its[x.toNat] = m by rw [List.getElem?_eq_getElem hxi] at hm; exact Option.some.inj hm] at this
        obtain ⟨A, c, h1, _⟩ := Row.slice this
        exact ⟨A, _, c, by rw [← hmv, h1]⟩
      subst h7
      obtain ⟨its, m, hU, hm, hmv, hBG, hrow, hfar⟩ := HU2.out
      have hxi : x.toNat < its.length := by rw [hU.len]; exact hx
      obtain ⟨W9, hW9⟩ : ∃ V, wr.alloc (.cells #[.slice A7 n7 c7] 64) = V := ⟨_, rfl⟩
      have hB9 : Below wr.heap.size wr W9 := by rw [← hW9]; exact below_alloc (Below.refl _ _) _
      have hz9 : W9.heap[wr.heap.size]? = some (.cells #[.slice A7 n7 c7] 64 (0, 0)) := by rw [← hW9]; exact World.alloc_heap_new wr _
      have hBG9 := hBG.below hB9
      have hrow9 := own_below hrow hB9
      have htl : ((its.take x.toNat).map Item.m).length = x.toNat := by simp; omega
      have hRow9 := row_of_own hrow9 htl
      have HALL := Lib.hid (And.intro hU (And.intro hm (And.intro hmv (And.intro hBG9 (And.intro hRow9 (And.intro hrow9 hfar))))))
      have HZ9 := Lib.hid hz9
      have HB9 := Lib.hid (below_step HB2.out hB9)
      have HK9 := Lib.hid (HK2.out.then_below hB9)
      have HBW := Lib.hid hB9
      have HW := Lib.hid (Nat.le_trans HB0.out.size (Nat.le_refl _))
      have hWwr : W.heap.size ≤ wr.heap.size := HK2.out.size
      obtain ⟨i0, hi0, hzz⟩ := Option.map_eq_some_iff.1 info2Watches
      simp only [Prod.mk.injEq] at hzz
      obtain ⟨hz0, hz1, hz2⟩ := hzz
      have HI := Lib.hid (And.intro hi0 (And.intro hz0 (And.intro hz1 hz2)))
      clear hU hm hmv hB9 hz9 hBG hBG9 hrow hrow9 hRow9 hi0 hz0 hz1 hz2 HU2 htl hfar
      go_wp2_with (first | (at_builtin; refine wpList_app rfl (.tmp 33) (.tmp 35) 47 rfl 64 i0 _ 1 24 Tryz.underlying47 HI.out.1 HI.out.2.1 HI.out.2.2.1 HI.out.2.2.2 rfl (by decide) W.heap.size u5 x.toNat ((its.take x.toNat).map Item.m) rfl HALL.out.2.2.2.2.2.1 ⟨wr.heap.size, 0, none⟩ 1 [.slice A7 n7 c7] rfl rfl (World.news_of_block (cs := #[.slice A7 n7 c7]) (t := 64) (fr := (0, 0)) HZ9.out) (by simp [Value.oneCell']) (by unfold maxLen; omega) (by omega) (Nat.le_trans hWwr HBW.out.size) ?_; intro g cp2 w3 hown hA))
      have HU3 : Hid (∃ its2, Under mk2Watches by_ L (x + 1).toNat 0 its2 ∧ BagWatches w0 w3 its2 ∧ w3.ownsRow W.heap.size 64 1 (.slice (some ⟨g, 0, none⟩) (x.toNat + 1) cp2) (x + 1).toNat ((its2.take (x + 1).toNat).map Item.m) ∧ Far W its2) := Lib.hid (by
        obtain ⟨hU, hm, hmv, hBG9, hRow9, hrow9, hfar⟩ := HALL.out
        rw [show (x + 1).toNat = x.toNat + 1 by omega]
        refine ⟨its, ?_, hBG9.otherApp hRow9 hA (by decide), ?_, hfar⟩
        · have := hU; rw [Int.toNat_natCast] at this; exact this.next
        · rw [List.take_add_one, hm, List.map_append]
          show w3.ownsRow W.heap.size 64 1 _ (x.toNat + 1) ((its.take x.toNat).map Item.m ++ [m.m])
          rw [hmv]; exact hown)
      have hu5 : ∀ b, u5.ownBlock = some b → W.heap.size ≤ b := fun b hb => (World.ownsRow.lt HALL.out.2.2.2.2.2.1 b hb).1
      have HB3 : Hid (Below w0.heap.size w0 w3) := Lib.hid (below_app HB9.out (fun b hb => Nat.le_trans HW.out (hu5 b hb)) hA)
      have HK3 : Hid (Only (OwnOf L) W w3) := Lib.hid (only_app HK9.out hA (fun b hb => .inr (hu5 b hb)))
      clear hA hown HALL HB9 HK9 HZ9 HB2 HK2 hW9 hu5
      go_wp2
      go_roundw
      case measure => simp [intOf]; omega
      case rel => exact ⟨x + 1, rfl, by omega, by omega, HU3, HB3, HK3⟩
  · have q2 : decide (x < (n : Int)) = false := decide_eq_false c2
    have hxn : x.toNat = n := by omega
    rw [hxn] at HU
    have HR : Hid (∀ y, y < n → ∃ Av nv cv Am cm q cq, ReadsG wr 3 p u5 n by_ y Av nv cv Am cm q cq) := Lib.hid fun y hy => by
      obtain ⟨its, hU, hBG, hrow, hfar⟩ := HU.out
      exact readsG (enc := encW) (size := 3) (mk1 := mk1Watches) (fun _ => rfl) (show 0 < 3 by decide) (fun _ => rfl) (fun _ => rfl) HN.out (HK.out.blk HOUT.out.1 HNO.out) HOUT.out.2 HMK.out.1 HMK.out.2 hU hBG hrow (by rw [HN.out]; exact hy)
    have HBK : Hid (BagWatches w0 wr (L.map fun x => start x.1 x.2)) := Lib.hid (by
      obtain ⟨its, hU, hBG, hrow, hfar⟩ := HU.out
      have := hBG.back
      rw [under_backG hU] at this
      exact this)
    obtain ⟨W2, hW2⟩ : ∃ V, wr = V := ⟨_, rfl⟩
    rw [hW2] at HR HBK HB HK ⊢
    clear HU hxn hW2 x0 xn c2
    go_wp2_with fail
    clear q2
    go_loopw [9] (fun vi wz => ∃ y : Int, vi = .int .i64 y ∧ 0 ≤ y ∧ y ≤ (n : Int) ∧ Hid (Below W2.heap.size W2 wz)) (fun vi _ => ((n : Int) - intOf vi).toNat)
    case atStart => exact ⟨0, rfl, by omega, by omega, Lib.hid (Below.refl _ _)⟩
    case round =>
    obtain ⟨y, rfl, y0, yn, HZ⟩ := hrel
    by_cases c4 : y < (n : Int)
    · have q4 : decide (y < (n : Int)) = true := decide_eq_true c4
      obtain ⟨Av, nv, cv, Am, cm, q, cq, hR⟩ := HR.out y.toNat (by omega)
      have hyy : ((y.toNat : Nat) : Int) = y := by omega
      have hu5 := hR.more
      have hnv := hR.small
      have HRR := Lib.hid hR
      have o1 := pw_cell_below HZ.out hR.outer
      have y0' := eq_true y0
      have c4' := eq_true c4
      have hw1 : IntKind.i64.wrap (-1000000 - y) = -1000000 - y := by rw [IntKind.wrap_i64]; omega
      have hw2 : IntKind.i64.wrap (-2000000 - y) = -2000000 - y := by rw [IntKind.wrap_i64]; omega
      have e1 : ((-1000000 - y) == (-1000000 - y)) = true := by simp
      have e2 : ((-2000000 - y) == (-2000000 - y)) = true := by simp
      subst hu5
      clear hR
      go_wp2_with fail
      clear o1
      go_loopw [11] (fun vk wz => ∃ k : Int, vk = .int .i64 k ∧ 0 ≤ k ∧ k ≤ (nv : Int) + (by_ : Int) ∧ Hid (Below W2.heap.size W2 wz)) (fun vk _ => ((nv : Int) + (by_ : Int) - intOf vk).toNat)
      case atStart => exact ⟨0, rfl, by omega, by omega, HZ⟩
      case round =>
      clear HZ
      obtain ⟨k, rfl, k0, kn, HZ⟩ := hrel
      by_cases c5 : k < (nv : Int) + (by_ : Int)
      · have q5 : decide (k < (nv : Int) + (by_ : Int)) = true := decide_eq_true c5
        have k0' := eq_true k0
        by_cases c6 : k < (nv : Int)
        · have q6 : decide (k < (nv : Int)) = true := decide_eq_true c6
          have q7 : decide ((nv : Int) ≤ k) = false := decide_eq_false (by omega)
          have q8 : ((nv : Int) ≤ k) = False := eq_false (by omega)
          have c6' := eq_true c6
          have c7' : (k < (nv : Int) + (by_ : Int)) = True := eq_true c5
          obtain ⟨g1, rfl, hg1⟩ := HRR.out.old k.toNat (by omega)
          obtain ⟨g2, rfl, hg2⟩ := HRR.out.new1 k.toNat (by omega)
          rw [hyy] at hg1 hg2
          have z1 := pw_cell_below HZ.out HRR.out.outer
          have z2 := pw_cell_below HZ.out hg1
          have z3 := pw_cell_below HZ.out HRR.out.moreAt
          have z4 := pw_cell_below HZ.out hg2
          clear hg1 hg2
          go_wp2
          exact ⟨⟨k + 1, rfl, by omega, by omega, HZ⟩, by simp [intOf]; omega⟩
        · have q6 : decide (k < (nv : Int)) = false := decide_eq_false c6
          have q7 : decide ((nv : Int) ≤ k) = true := decide_eq_true (by omega)
          have q8 : ((nv : Int) ≤ k) = True := eq_true (by omega)
          have c6' := eq_false c6
          have c7' : (k < (nv : Int) + (by_ : Int)) = True := eq_true c5
          obtain ⟨g2, rfl, hg2⟩ := HRR.out.new2 k.toNat (by omega) (by omega)
          rw [hyy] at hg2
          have z1 := pw_cell_below HZ.out HRR.out.outer
          have z3 := pw_cell_below HZ.out HRR.out.moreAt
          have z4 := pw_cell_below HZ.out hg2
          clear hg2
          go_wp2
          exact ⟨⟨k + 1, rfl, by omega, by omega, HZ⟩, by simp [intOf]; omega⟩
      · have q5 : decide (k < (nv : Int) + (by_ : Int)) = false := decide_eq_false c5
        go_wp2
        go_roundw
        case measure => simp [intOf]; omega
        case rel => exact ⟨y + 1, rfl, by omega, by omega, HZ⟩
    · have q4 : decide (y < (n : Int)) = false := decide_eq_false c4
      go_wp2
      go_ret
      exact ⟨rfl, HBK.out.below HZ.out, below_step HB.out HZ.out, HK.out.then_below HZ.out⟩
theorem putWatches {w0 W : World} {L : Lists S57} (h : BagWatches w0 W (L.map fun x => start x.1 x.2)) {i : Nat} {v : Value} {xs : List S57} (hi : L[i]? = some (v, xs)) {g cap : Nat} (hv : v = .slice (some ⟨g, 0, none⟩) xs.length cap) {k : Int} (k0 : 0 ≤ k) (hk : k < (xs.length : Int)) :
    (∃ u, W.cell? ⟨g, k.toNat * 3, none⟩ = some u) ∧ (∃ u, W.cell? ⟨g, k.toNat * 3 + 1, none⟩ = some u) ∧ (∃ u, W.cell? ⟨g, k.toNat * 3 + 2, none⟩ = some u) ∧ W.frozen? ⟨g, k.toNat * 3, none⟩ = false ∧ W.frozen? ⟨g, k.toNat * 3 + 1, none⟩ = false ∧ W.frozen? ⟨g, k.toNat * 3 + 2, none⟩ = false ∧
    ∀ y : S57,
      BagWatches w0 (((W.setCell ⟨g, k.toNat * 3, none⟩ (.int .i64 y.f0)).setCell ⟨g, k.toNat * 3 + 1, none⟩ (.int .i8 y.f1)).setCell ⟨g, k.toNat * 3 + 2, none⟩ (.string y.f2)) ((L.set i (v, xs.set k.toNat y)).map fun x => start x.1 x.2) ∧
      W.grownBy (((W.setCell ⟨g, k.toNat * 3, none⟩ (.int .i64 y.f0)).setCell ⟨g, k.toNat * 3 + 1, none⟩ (.int .i8 y.f1)).setCell ⟨g, k.toNat * 3 + 2, none⟩ (.string y.f2)) (some g) ∧ w0.heap.size ≤ g := by
  have hiL : i < L.length := (List.getElem?_eq_some_iff.1 hi).1
  have him : i < (L.map fun x => start x.1 x.2).length := by simpa using hiL
  have hLi : L[i] = (v, xs) := by rw [List.getElem?_eq_getElem hiL] at hi; exact Option.some.inj hi
  have hst : (L.map fun x => start x.1 x.2)[i] = start v xs := by simp [hLi]
  have hG := h.ok i him
  rw [hst] at hG
  have hrow : Row encW 3 w0.heap.size 57 W v xs := hG.rv
  have hR := R_of_row (d := k57) rfl (fun _ => rfl) (fun w b o x => Pr.k57_mkM w b o x) hrow
  rw [hv] at hR
  obtain ⟨cf, hcl, hNc, hcc, hfr⟩ := Kd.R_elem hR z57 k k0 hk
  obtain rfl := Pr.k57_openM hNc
  refine ⟨⟨_, hcc 0 _ rfl⟩, ⟨_, hcc 1 _ rfl⟩, ⟨_, hcc 2 _ rfl⟩, hfr 0, hfr 1, hfr 2, fun y => ?_⟩
  have hs := Kd.R_seg hR k k0 hk (seg := [.int .i64 y.f0, .int .i8 y.f1, .string y.f2]) (j := 0) (x' := y) hcl hcc (Nat.le_refl 3) (Pr.k57_mkM _ _ (fun _ => False) _) (fun _ h => h.elim)
  have hrow2 := row_of_R (enc := encW) (size := 3) rfl (fun _ => rfl) (fun w b o x cs hx => Pr.k57_openM hx) hs.1
  refine ⟨?_, hs.2, (hrow.lt (b := g) (by rw [hv]; rfl)).1⟩
  rw [map_set_startG]
  refine h.put him hst (g := g) (by rw [hv]; rfl) ?_ hs.2
  have : (Value.slice (some ⟨g, 0, none⟩) xs.length cap) = v := hv.symm
  rw [this] at hrow2
  exact hrow2
set_option maxRecDepth 100000 in
set_option maxHeartbeats 8000000 in
theorem apartWatches_calls (w0 W : World) (p cp : Nat) (L0 : Lists S57) (cs : Array Value) (hB0 : Below w0.heap.size w0 W) (hL : L0.length ≤ 1000) (hLp : L0.length ≤ cp)
    (hout : W.heap[p]? = some (.cells cs 64 (0, 0))) (hcs : ∀ j (hj : j < L0.length), cs[j]? = some L0[j].1) (hsm : ∀ j (hj : j < L0.length), L0[j].2.length ≤ 4294967296)
    (hbag : BagWatches w0 W (L0.map fun x => start x.1 x.2)) :
    Calls Tryz.prog 44 #[.slice (some ⟨p, 0, none⟩) L0.length cp] W fun e w' => e = .returned (.bool true) ∧ Below w0.heap.size w0 w' ∧ Only (OwnOf L0) W w' := by
  have HOUT := Lib.hid (And.intro hout hcs)
  have HNO := Lib.hid (not_own hbag hout (by decide))
  have HSM := Lib.hid hsm
  have HB0 := Lib.hid hB0
  have HBAG : Hid (∃ L, MarkingG mk1Watches L0 0 0 L ∧ BagWatches w0 W (L.map fun x => start x.1 x.2)) := Lib.hid ⟨_, MarkingG.start, hbag⟩
  obtain ⟨n, hn⟩ : ∃ n, L0.length = n := ⟨_, rfl⟩
  have HN := Lib.hid hn
  rw [hn] at hL hLp ⊢
  clear hout hcs hsm hB0 hbag hn
  go_enter Tryz.func44, Tryz.ntmps44
  go_wp2_with fail
  go_loopw [3] (fun vi wr => ∃ (x : Int), vi = .int .i64 x ∧ 0 ≤ x ∧ x ≤ (n : Int) ∧ Hid (∃ L, MarkingG mk1Watches L0 x.toNat 0 L ∧ BagWatches w0 wr (L.map fun x => start x.1 x.2)) ∧ Hid (Below w0.heap.size w0 wr) ∧ Hid (Only (OwnOf L0) W wr)) (fun vi _ => ((n : Int) - intOf vi).toNat)
  case atStart => exact ⟨0, rfl, by omega, by omega, HBAG, HB0, Lib.hid (Only.refl _ _)⟩
  case round =>
  clear HBAG
  obtain ⟨x, rfl, x0, xn, HM, HB, HK⟩ := hrel
  by_cases c2 : x < (n : Int)
  · have q2 : decide (x < (n : Int)) = true := decide_eq_true c2
    have hx : x.toNat < L0.length := by rw [HN.out]; omega
    have hxx : ((x.toNat : Nat) : Int) = x := by omega
    obtain ⟨A, nv, cv, hA⟩ : ∃ A nv cv, L0[x.toNat].1 = .slice A nv cv ∧ nv = L0[x.toNat].2.length := by
      obtain ⟨L, hM, hBG⟩ := HM.out
      have hxl : x.toNat < L.length := by rw [hM.len]; exact hx
      have h1 := (hBG.ok x.toNat (by rw [List.length_map]; exact hxl)).rv
      simp only [List.getElem_map] at h1
      obtain ⟨A, c, h2, _⟩ := Row.slice h1
      have h3 : L[x.toNat].1 = L0[x.toNat].1 := hM.v x.toNat hx
      have h4 : (start L[x.toNat].1 L[x.toNat].2).v = L[x.toNat].1 := rfl
      rw [h4, h3] at h2
      exact ⟨A, _, c, h2, hM.n x.toNat hx⟩
    have HA := Lib.hid hA
    have hnv : nv ≤ 4294967296 := by rw [hA.2]; exact HSM.out _ hx
    have x0' := eq_true x0
    have c2' := eq_true c2
    clear hA
    go_wp2_with fail
    go_loopw [4] (fun vk wr2 => ∃ (k : Int), vk = .int .i64 k ∧ 0 ≤ k ∧ k ≤ (nv : Int) ∧ Hid (∃ L, MarkingG mk1Watches L0 x.toNat k.toNat L ∧ BagWatches w0 wr2 (L.map fun x => start x.1 x.2)) ∧ Hid (Below w0.heap.size w0 wr2) ∧ Hid (Only (OwnOf L0) W wr2)) (fun vk _ => ((nv : Int) - intOf vk).toNat)
    case atStart => exact ⟨0, rfl, by omega, by omega, HM, HB, HK⟩
    case round =>
    clear HM HB HK
    obtain ⟨k, rfl, k0, kn, HM, HB, HK⟩ := hrel
    have o1 : wr.cell? ⟨p, x.toNat, none⟩ = some (.slice A nv cv) := by rw [← HA.out.1]; exact cell_rowK (HK.out.blk HOUT.out.1 HNO.out) (HOUT.out.2 _ hx)
    by_cases c3 : k < (nv : Int)
    · have q3 : decide (k < (nv : Int)) = true := decide_eq_true c3
      have k0' := eq_true k0
      have c3' := eq_true c3
      obtain ⟨g, hg⟩ : ∃ g, A = some ⟨g, 0, none⟩ := by
        obtain ⟨L, hM, hBG⟩ := HM.out
        have hxl : x.toNat < L.length := by rw [hM.len]; exact hx
        have h1 := (hBG.ok x.toNat (by rw [List.length_map]; exact hxl)).rv
        simp only [List.getElem_map] at h1
        have h2 : Row encW 3 w0.heap.size 57 wr L[x.toNat].1 L[x.toNat].2 := h1
        rw [hM.v x.toNat hx, HA.out.1] at h2
        rcases h2.shape with ⟨h3, _⟩ | ⟨g, cap, h3, _⟩
        · simp only [Value.slice.injEq] at h3; omega
        · simp only [Value.slice.injEq] at h3; exact ⟨g, h3.1⟩
      subst hg
      have hput : ((∃ u, wr.cell? ⟨g, k.toNat * 3, none⟩ = some u) ∧ (∃ u, wr.cell? ⟨g, k.toNat * 3 + 1, none⟩ = some u) ∧ (∃ u, wr.cell? ⟨g, k.toNat * 3 + 2, none⟩ = some u) ∧ wr.frozen? ⟨g, k.toNat * 3, none⟩ = false ∧ wr.frozen? ⟨g, k.toNat * 3 + 1, none⟩ = false ∧ wr.frozen? ⟨g, k.toNat * 3 + 2, none⟩ = false) ∧
          (∃ L, MarkingG mk1Watches L0 x.toNat (k + 1).toNat L ∧ BagWatches w0 (((wr.setCell ⟨g, k.toNat * 3, none⟩ (.int .i64 (-1000000 - x))).setCell ⟨g, k.toNat * 3 + 1, none⟩ (.int .i8 0)).setCell ⟨g, k.toNat * 3 + 2, none⟩ (.string ⟨#[]⟩)) (L.map fun x => start x.1 x.2)) ∧
          Below w0.heap.size w0 (((wr.setCell ⟨g, k.toNat * 3, none⟩ (.int .i64 (-1000000 - x))).setCell ⟨g, k.toNat * 3 + 1, none⟩ (.int .i8 0)).setCell ⟨g, k.toNat * 3 + 2, none⟩ (.string ⟨#[]⟩)) ∧
          Only (OwnOf L0) W (((wr.setCell ⟨g, k.toNat * 3, none⟩ (.int .i64 (-1000000 - x))).setCell ⟨g, k.toNat * 3 + 1, none⟩ (.int .i8 0)).setCell ⟨g, k.toNat * 3 + 2, none⟩ (.string ⟨#[]⟩)) := by
        obtain ⟨L, hM, hBG⟩ := HM.out
        have hxl : x.toNat < L.length := by rw [hM.len]; exact hx
        have hi : L[x.toNat]? = some (L[x.toNat].1, L[x.toNat].2) := List.getElem?_eq_getElem hxl
        have hlen : L[x.toNat].2.length = nv := by rw [hM.n x.toNat hx, HA.out.2]
        obtain ⟨a0, a1, a2, a3, a4, a5, a6⟩ := putWatches hBG hi (g := g) (cap := cv) (by rw [hM.v x.toNat hx, HA.out.1, hlen]) k0 (by rw [hlen]; exact c3)
        obtain ⟨b1, b2, b3⟩ := a6 (mk1Watches x)
        have hmp := hM.put hi
        rw [hxx] at hmp
        refine ⟨⟨a0, a1, a2, a3, a4, a5⟩, ⟨_, ?_, b1⟩, below_grownO HB.out (Nat.le_refl _) b2 (fun b h => by cases h; exact b3), only_grown HK.out b2 ⟨x.toNat, hx, by rw [HA.out.1]; rfl⟩⟩
        rw [show (k + 1).toNat = k.toNat + 1 by omega]; exact hmp
      obtain ⟨⟨⟨t0, s0⟩, ⟨t1, s1⟩, ⟨t2, s2⟩, f0, f1, f2⟩, hnx⟩ := hput
      have HNX := Lib.hid hnx
      have hw1 : IntKind.i64.wrap (-1000000 - x) = -1000000 - x := by rw [IntKind.wrap_i64]; omega
      clear hnx HM
      go_wp2
      exact ⟨⟨k + 1, rfl, by omega, by omega, Lib.hid HNX.out.1, Lib.hid HNX.out.2.1, Lib.hid HNX.out.2.2⟩, by simp [intOf]; omega⟩
    · have q3 : decide (k < (nv : Int)) = false := decide_eq_false c3
      go_wp2
      go_roundw
      case measure => simp [intOf]; omega
      case rel =>
        refine ⟨x + 1, rfl, by omega, by omega, Lib.hid ?_, HB, HK⟩
        obtain ⟨L, hM, hBG⟩ := HM.out
        rw [show (x + 1).toNat = x.toNat + 1 by omega]
        exact ⟨L, hM.next (fun hj => by rw [← HA.out.2]; omega), hBG⟩
  · have q2 : decide (x < (n : Int)) = false := decide_eq_false c2
    obtain ⟨L, hM, hBG⟩ := HM.out
    have hlen : L.length = n := by rw [hM.len, HN.out]
    have hout2 := HK.out.blk HOUT.out.1 HNO.out
    have hcs2 : ∀ j (hj : j < L.length), cs[j]? = some L[j].1 := fun j hj => by rw [hM.v j (by rw [← hM.len]; exact hj)]; exact HOUT.out.2 j _
    have hmk2 : ∀ j (hj : j < L.length), L[j].2 = List.replicate L[j].2.length (mk1Watches j) := fun j hj => by
      have hj0 : j < L0.length := by rw [← hM.len]; exact hj
      have h1 := hM.done j hj0 (by rw [HN.out] at hj0; omega)
      rw [h1]; simp
    have hsm2 : ∀ j (hj : j < L.length), L[j].2.length ≤ 4294967296 := fun j hj => by rw [hM.n j (by rw [← hM.len]; exact hj)]; exact HSM.out j _
    have K1 := grownWatches_calls w0 wr p cp 1 L cs HB.out (by omega) (by omega) (by omega) hout2 hcs2 hmk2 hsm2 hBG
    rw [hlen] at K1
    have K1 := Lib.hid K1
    have hno2 : ¬ OwnOf L p := fun h => HNO.out (hM.own.1 h)
    have HALL := Lib.hid (And.intro hcs2 (And.intro hmk2 (And.intro hsm2 (And.intro hlen (And.intro hout2 (And.intro hno2 (fun b (h : OwnOf L b) => hM.own.1 h)))))))
    clear hM hBG hout2 hcs2 hmk2 hsm2 hlen HM hno2
    go_wp2_with fail
    refine K1.out.mono ?_
    rintro e w3 ⟨rfl, hBG3, hB3, hK3⟩
    have K2 := grownWatches_calls w0 w3 p cp 24 L cs hB3 (by omega) (by have := HALL.out.2.2.2.1; omega) (by have := HALL.out.2.2.2.1; omega) (hK3.blk HALL.out.2.2.2.2.1 HALL.out.2.2.2.2.2.1) HALL.out.1 HALL.out.2.1 HALL.out.2.2.1 hBG3
    rw [HALL.out.2.2.2.1] at K2
    have K2 := Lib.hid K2
    have HK3 := Lib.hid (HK.out.trans hK3 (fun i _ h => HALL.out.2.2.2.2.2.2 i h))
    clear hBG3 hB3 hK3 K1
    go_wp2_with fail
    refine K2.out.mono ?_
    rintro e w4 ⟨rfl, hBG4, hB4, hK4⟩
    have HB4 := Lib.hid hB4
    have HK4 := Lib.hid (HK3.out.trans hK4 (fun i _ h => HALL.out.2.2.2.2.2.2 i h))
    clear hBG4 hB4 hK4 K2
    go_wp2
    go_ret
    exact ⟨rfl, HB4.out, HK4.out⟩
end Go.Proofs.YtkhnjckkjdldbaaGreatDoor.Bag
