import Derived.Test.YtgjgafibipepeaaGreatDoorBagA
import Derived.Test.YtgjgafibipepeaaGreatDoorC3
import Derived.Test.YtgjgafibipepeaaGreatDoorBag5
namespace Go.Proofs.YtgjgafibipepeaaGreatDoor.Bag
open Go.RowKit Go.Proofs.YtgjgafibipepeaaGreatDoorW.PrintWords Go.Deep Go.Maps Go.WideShapes Go.Lib
open Go.Proofs.YtgjgafibipepeaaGreatDoor.Pr (S39 S41 k39 k41 z39 z41 info39 info41)
open Go.Proofs.YtgjgafibipepeaaGreatDoor.Q
set_option linter.unusedVariables false
set_option linter.unusedSimpArgs false
attribute [local go_sem] Oper.semAt_some
/-! GROWN, OF LISTS OF IDS -/
def mkI1 (j : Int) : S39 := ⟨⟨#[]⟩, markB (-1000000 - j)⟩
def mkI2 (j : Int) : S39 := ⟨⟨#[]⟩, markB (-2000000 - j)⟩
theorem infoIs : (Tryz.prog.info? 23).map (fun i => (i.zero, i.size, i.bytes)) = some (some (.slice none 0 0), 1, 24) := by kernel_rfl
abbrev BagI_ (w0 W : World) (its : List (Item S39)) : Prop := BagI encI 2 w0.heap.size 39 W its
/-- what is read of a bag whose lists are grown -/
structure ReadsI (wr : World) (p : Nat) (u5 : Value) (n by_ y : Nat) (Av : Option Addr) (nv cv : Nat) (Am : Option Addr) (cm : Nat) (q cq : Nat) : Prop where
  outer : wr.cell? ⟨p, y, none⟩ = some (.slice Av nv cv)
  more : u5 = .slice (some ⟨q, 0, none⟩) n cq
  moreAt : wr.cell? ⟨q, y, none⟩ = some (.slice Am (nv + by_) cm)
  nq : n ≤ cq
  nvc : nv ≤ cv
  nmc : nv + by_ ≤ cm
  small : nv ≤ 4294967296
  old : ∀ k, k < nv → ∃ g, Av = some ⟨g, 0, none⟩ ∧ wr.cell? ⟨g, k * 2 + 1, none⟩ = some (.string (markB (-1000000 - y)))
  new1 : ∀ k, k < nv → ∃ g, Am = some ⟨g, 0, none⟩ ∧ wr.cell? ⟨g, k * 2 + 1, none⟩ = some (.string (markB (-1000000 - y)))
  new2 : ∀ k, nv ≤ k → k < nv + by_ → ∃ g, Am = some ⟨g, 0, none⟩ ∧ wr.cell? ⟨g, k * 2 + 1, none⟩ = some (.string (markB (-2000000 - y)))
theorem readsI {w0 wr W : World} {p n by_ : Nat} {L : Lists S39} {cs : Array Value} {u5 : Value} {its : List (Item S39)} (hn : L.length = n) (hblk : wr.heap[p]? = some (.cells cs 23 (0, 0))) (hcs : ∀ j (hj : j < L.length), cs[j]? = some L[j].1)
    (hmk : ∀ j (hj : j < L.length), L[j].2 = List.replicate L[j].2.length (mkI1 j)) (hsm : ∀ j (hj : j < L.length), L[j].2.length ≤ 4294967296) (hU : Under mkI2 by_ L n 0 its) (hBG : BagI_ w0 wr its)
    (hrow : wr.ownsRow W.heap.size 23 1 u5 n ((its.take n).map Item.m)) {y : Nat} (hy : y < L.length) : ∃ Av nv cv Am cm q cq, ReadsI wr p u5 n by_ y Av nv cv Am cm q cq := by
  have hyi : y < its.length := by rw [hU.len]; exact hy
  have hG := hBG.ok y hyi
  have ev := hU.v y hy
  have ex := hU.xs y hy
  have ey := hU.done y hy (by omega)
  have hrv := hG.rv
  have hrm := hG.rm
  rw [ev, ex] at hrv
  rw [ex, ey] at hrm
  obtain ⟨Av, cv, h1, h2⟩ := hrv.slice
  obtain ⟨Am, cm, h3, h4⟩ := hrm.slice
  obtain ⟨q, cq, h5, _, _⟩ := hrow.form (by omega)
  obtain ⟨_, _, _, h6, _, _, hnq, _⟩ : ∃ g cap cur, u5 = .slice (some ⟨g, 0, none⟩) n cap ∧ W.heap.size ≤ g ∧ wr.heap[g]? = some (.cells cur 23 (0, 0)) ∧ n ≤ cap ∧ True := by
    rcases hrow.2 with ⟨e1, e2⟩ | ⟨g, cap, cur, e1, e2, e3, e4, _⟩
    · omega
    · exact ⟨g, cap, cur, e1, e2, e3, e4, trivial⟩
  have hlen : (L[y].2 ++ List.replicate by_ (mkI2 y)).length = L[y].2.length + by_ := by simp
  refine ⟨Av, L[y].2.length, cv, Am, cm, q, cq, ?_, h5, ?_, ?_, h2, by rw [hlen] at h4; exact h4, hsm y hy, fun k hk => ?_, fun k hk => ?_, fun k hk1 hk2 => ?_⟩
  · rw [← h1]; exact cell_row hblk (hcs y hy)
  · rw [h5] at hrow
    have := World.ownsRow.cellAt hrow y (by omega)
    rw [this, List.getElem?_map, List.getElem?_take_of_lt (by omega), List.getElem?_eq_getElem hyi, Option.map_some, h3, hlen]
  · rw [h5] at h6
    simp only [Value.slice.injEq, Option.some.injEq, Addr.mk.injEq, and_true, true_and] at h6
    omega
  · rcases hrv.shape with ⟨_, e2⟩ | ⟨g, cap, e1, _⟩
    · rw [e2] at hk; simp at hk
    · rw [h1] at e1
      simp only [Value.slice.injEq] at e1
      obtain ⟨rfl, _, rfl⟩ := e1
      rw [h1] at hrv
      refine ⟨g, rfl, Row.cell (enc := encI) (size := 2) (fun _ => rfl) hrv hk (j := 1) ?_⟩
      have : L[y].2[k] = mkI1 y := by
        have := hmk y hy
        rw [List.getElem_of_eq this]; simp
      rw [this]; rfl
  · rcases hrm.shape with ⟨_, e2⟩ | ⟨g, cap, e1, _⟩
    · rw [List.append_eq_nil_iff] at e2; rw [e2.1] at hk; simp at hk
    · rw [h3] at e1
      simp only [Value.slice.injEq] at e1
      obtain ⟨rfl, _, rfl⟩ := e1
      rw [h3] at hrm
      refine ⟨g, rfl, Row.cell (enc := encI) (size := 2) (fun _ => rfl) hrm (k := k) (by rw [hlen]; omega) (j := 1) ?_⟩
      have : L[y].2[k] = mkI1 y := by
        have := hmk y hy
        rw [List.getElem_of_eq this]; simp
      rw [List.getElem_append_left hk, this]; rfl
  · rcases hrm.shape with ⟨_, e2⟩ | ⟨g, cap, e1, _⟩
    · have := congrArg List.length e2
      rw [hlen] at this; simp at this; omega
    · rw [h3] at e1
      simp only [Value.slice.injEq] at e1
      obtain ⟨rfl, _, rfl⟩ := e1
      rw [h3] at hrm
      refine ⟨g, rfl, Row.cell (enc := encI) (size := 2) (fun _ => rfl) hrm (k := k) (by rw [hlen]; omega) (j := 1) ?_⟩
      rw [List.getElem_append_right hk1]; simp [mkI2]
theorem under_backI {L : Lists S39} {by_ n k : Nat} {its : List (Item S39)} (h : Under mkI2 by_ L n k its) : (its.map fun it => start it.v it.xs) = L.map fun x => start x.1 x.2 := by
  apply List.ext_getElem
  · simp [h.len]
  · intro j h1 h2
    simp only [List.getElem_map]
    rw [h.v j (by simpa using h2), h.xs j (by simpa using h2)]
set_option maxRecDepth 100000 in
set_option maxHeartbeats 8000000 in
theorem grownI_calls (w0 W : World) (p cp by_ : Nat) (L : Lists S39) (cs : Array Value) (hB0 : Below w0.heap.size w0 W) (hby : by_ ≤ 24) (hL : L.length ≤ 1000) (hLp : L.length ≤ cp)
    (hout : W.heap[p]? = some (.cells cs 23 (0, 0))) (hcs : ∀ j (hj : j < L.length), cs[j]? = some L[j].1) (hmk : ∀ j (hj : j < L.length), L[j].2 = List.replicate L[j].2.length (mkI1 j)) (hsm : ∀ j (hj : j < L.length), L[j].2.length ≤ 4294967296)
    (hbag : BagI_ w0 W (L.map fun x => start x.1 x.2)) (hE : Env w0) :
    Calls Tryz.prog 79 #[.slice (some ⟨p, 0, none⟩) L.length cp, .int .i64 by_] W fun e w' => e = .returned (.bool true) ∧ BagI_ w0 w' (L.map fun x => start x.1 x.2) ∧ Below w0.heap.size w0 w' ∧ KeptBut 39 W w' := by
  have HE := Lib.hid hE
  have HOUT := Lib.hid (And.intro hout hcs)
  have HMK := Lib.hid (And.intro hmk hsm)
  have HB0 := Lib.hid hB0
  have hpl := blk_lt hout
  have HBAG : Hid (∃ its, Under mkI2 by_ L 0 0 its ∧ BagI_ w0 W its ∧ W.ownsRow W.heap.size 23 1 (.slice none 0 0) 0 ((its.take 0).map Item.m)) := Lib.hid ⟨_, Under.start, hbag, World.ownsRow_nil _ _ _ _⟩
  obtain ⟨n, hn⟩ : ∃ n, L.length = n := ⟨_, rfl⟩
  have HN := Lib.hid hn
  rw [hn] at hL hLp ⊢
  clear hE hout hcs hmk hsm hB0 hbag hn
  go_enter Tryz.func79, Tryz.ntmps79
  go_wp2_with fail
  go_loopw [5, 6] (fun vm vi wr => ∃ (x : Int), vi = .int .i64 x ∧ 0 ≤ x ∧ x ≤ (n : Int) ∧ Hid (∃ its, Under mkI2 by_ L x.toNat 0 its ∧ BagI_ w0 wr its ∧ wr.ownsRow W.heap.size 23 1 vm x.toNat ((its.take x.toNat).map Item.m)) ∧ Hid (Below w0.heap.size w0 wr) ∧ Hid (KeptBut 39 W wr)) (fun _ vi _ => ((n : Int) - intOf vi).toNat)
  case atStart => exact ⟨0, rfl, by omega, by omega, HBAG, HB0, Lib.hid (KeptBut.refl _ _)⟩
  case round =>
  clear HBAG
  obtain ⟨x, rfl, x0, xn, HU, HB, HK⟩ := hrel
  by_cases c2 : x < (n : Int)
  · have q2 : decide (x < (n : Int)) = true := decide_eq_true c2
    obtain ⟨its, hU, hBG, hrow⟩ := HU.out
    have hx : x.toNat < L.length := by rw [HN.out]; omega
    have hxi : x.toNat < its.length := by rw [hU.len]; exact hx
    have hblk := HK.out.kept p _ HOUT.out.1 (fun cs fr h => by simp at h)
    have o1 : wr.cell? ⟨p, x.toNat, none⟩ = some L[x.toNat].1 := cell_row hblk (HOUT.out.2 _ hx)
    obtain ⟨v, hv⟩ : ∃ v, L[x.toNat].1 = v := ⟨_, rfl⟩
    rw [hv] at o1
    have HV := Lib.hid hv
    have HU1 : Hid (∃ its m, Under mkI2 by_ L x.toNat 0 its ∧ its[x.toNat]? = some m ∧ m.m = v ∧ BagI_ w0 wr its ∧ wr.ownsRow W.heap.size 23 1 u5 x.toNat ((its.take x.toNat).map Item.m)) :=
      Lib.hid ⟨its, _, hU, List.getElem?_eq_getElem hxi, (hU.mnow hx rfl).trans hv, hBG, hrow⟩
    have x0' := eq_true x0
    have c2' := eq_true c2
    clear hU hBG hrow hblk hv HU hxi
    go_wp2_with fail
    go_loopw [7, 8] (fun vm2 vk wr2 => ∃ (k : Int), vk = .int .i64 k ∧ 0 ≤ k ∧ k ≤ (by_ : Int) ∧ Hid (∃ its m, Under mkI2 by_ L x.toNat k.toNat its ∧ its[x.toNat]? = some m ∧ m.m = vm2 ∧ BagI_ w0 wr2 its ∧ wr2.ownsRow W.heap.size 23 1 u5 x.toNat ((its.take x.toNat).map Item.m)) ∧ Hid (Below w0.heap.size w0 wr2) ∧ Hid (KeptBut 39 W wr2)) (fun _ vk _ => ((by_ : Int) - intOf vk).toNat)
    case atStart => exact ⟨0, rfl, by omega, by omega, HU1, HB, HK⟩
    case round =>
    clear HU1 HB HK o1
    obtain ⟨k, rfl, k0, kb, HU2, HB2, HK2⟩ := hrel
    by_cases c3 : k < (by_ : Int)
    · have q3 : decide (k < (by_ : Int)) = true := decide_eq_true c3
      have KM := Lib.hid (mark_calls (-2000000 - x) wr (by omega) (by omega) (HE.out.below HB2.out))
      go_wp2_with fail
      refine KM.out.mono ?_
      rintro e w2 ⟨rfl, hB3⟩
      obtain ⟨its, m, hU, hm, hmv, hBG, hrow⟩ := HU2.out
      have hxi : x.toNat < its.length := by rw [hU.len]; exact hx
      have hmi : its[x.toNat] = m := by rw [List.getElem?_eq_getElem hxi] at hm; exact Option.some.inj hm
      obtain ⟨W9, hW9⟩ : ∃ V, w2.alloc (.cells #[.string ⟨#[]⟩, .string (markB (-2000000 - x))] 39) = V := ⟨_, rfl⟩
      have hB9 : Below wr.heap.size wr W9 := by rw [← hW9]; exact below_alloc hB3 _
      have hz9 : W9.heap[w2.heap.size]? = some (.cells #[.string ⟨#[]⟩, .string (markB (-2000000 - x))] 39 (0, 0)) := by rw [← hW9]; exact World.alloc_heap_new w2 _
      have hBG9 := hBG.below hB9
      have hG := hBG9.ok x.toNat hxi
      rw [hmi] at hG
      have hlen : (m.xs ++ m.ys).length ≤ 4294967400 := by
        have e1 := hU.xs x.toNat hx
        have e2 := hU.now hx
        rw [hmi] at e1 e2
        rw [List.length_append, e1, e2, List.length_replicate]
        have := HMK.out.2 x.toNat hx
        omega
      have HALL := Lib.hid (And.intro hU (And.intro hm (And.intro hmi (And.intro hB9 (And.intro hBG9 (And.intro hG (own_below hrow hB9)))))))
      have HZ9 := Lib.hid hz9
      have HB9 := Lib.hid (below_step HB2.out hB9)
      have HK9 := Lib.hid (HK2.out.step hB9)
      have HL := Lib.hid hlen
      have HXI := Lib.hid hxi
      obtain ⟨i0, hi0, hzz⟩ := Option.map_eq_some_iff.1 info39
      simp only [Prod.mk.injEq] at hzz
      obtain ⟨hz0, hz1, hz2⟩ := hzz
      have HI := Lib.hid (And.intro hi0 (And.intro hz0 (And.intro hz1 hz2)))
      subst hmv
      clear hU hm hmi hB3 hB9 hz9 hBG hBG9 hG hrow hlen hi0 hz0 hz1 hz2 KM HU2
      go_wp2_with (first | ((with_reducible refine gate_builtin (b := .append) (xs := #[.tmp 27, .tmp 32]) rfl ?_); at_builtin; refine wpList_app rfl (.tmp 27) (.tmp 32) 23 rfl 39 i0 _ 2 32 Tryz.underlying23 HI.out.1 HI.out.2.1 HI.out.2.2.1 HI.out.2.2.2 rfl (by decide) w0.heap.size m.m (m.xs ++ m.ys).length ((m.xs ++ m.ys).flatMap encI) rfl HALL.out.2.2.2.2.2.1.rm ⟨w2.heap.size, 0, none⟩ 1 [.string ⟨#[]⟩, .string (markB (-2000000 - x))] rfl rfl (World.news_of_block (cs := #[.string ⟨#[]⟩, .string (markB (-2000000 - x))]) (t := 39) (fr := (0, 0)) HZ9.out) (by simp [Value.oneCell']) (by have := HL.out; unfold maxLen; omega) (by have := HL.out; omega) HB9.out.size ?_; intro g cap w3 hown hA))
      have hxx : ((x.toNat : Nat) : Int) = x := by omega
      have HU3 : Hid (∃ its2 m2, Under mkI2 by_ L x.toNat (k + 1).toNat its2 ∧ its2[x.toNat]? = some m2 ∧ m2.m = .slice (some ⟨g, 0, none⟩) ((m.xs ++ m.ys).length + 1) cap ∧ BagI_ w0 w3 its2 ∧ w3.ownsRow W.heap.size 23 1 u5 x.toNat ((its2.take x.toNat).map Item.m)) := Lib.hid (by
        obtain ⟨hU, hm, hmi, hB9, hBG9, hG, hrow⟩ := HALL.out
        have hg := hU.grow hx (m := .slice (some ⟨g, 0, none⟩) ((m.xs ++ m.ys).length + 1) cap) hm
        rw [hxx] at hg
        have ha := BagI.app (enc := encI) (size := 2) (fun _ => rfl) hBG9 HXI.out (mkI2 x) (g := g) (cap := cap) (w' := w3) (by rw [hmi]; exact hown) (by rw [hmi]; exact hA)
        rw [hmi] at ha
        refine ⟨its.set x.toNat ⟨m.v, m.xs, .slice (some ⟨g, 0, none⟩) ((m.xs ++ m.ys).length + 1) cap, m.ys ++ [mkI2 x]⟩, ⟨m.v, m.xs, .slice (some ⟨g, 0, none⟩) ((m.xs ++ m.ys).length + 1) cap, m.ys ++ [mkI2 x]⟩, ?_, ?_, rfl, ha, ?_⟩
        · rw [show (k + 1).toNat = k.toNat + 1 by omega]; exact hg
        · rw [List.getElem?_set_self HXI.out]
        · rw [List.take_set_of_le (Nat.le_refl _)]
          exact own_otherApp hrow hG.rm hA (by decide))
      have HB3 : Hid (Below w0.heap.size w0 w3) := Lib.hid (below_app HB9.out (fun b hb => (HALL.out.2.2.2.2.2.1.rm.lt hb).1) hA)
      have HK3 : Hid (KeptBut 39 W w3) := Lib.hid (HK9.out.app HALL.out.2.2.2.2.2.1.rm hA)
      clear hA hown HALL HB9 HK9 HZ9 HB2 HK2 hW9
      go_wp2
      go_roundw
      case measure => simp [intOf]; omega
      case rel => exact ⟨k + 1, rfl, by omega, by omega, Lib.hid (by have h := HU3.out; simp only [List.length_append] at h; exact h), HB3, HK3⟩
    · have q3 : decide (k < (by_ : Int)) = false := decide_eq_false c3
      obtain rfl : k = (by_ : Int) := by omega
      obtain ⟨A7, n7, c7, h7⟩ : ∃ A n c, u7 = .slice A n c := by
        obtain ⟨its, m, hU, hm, hmv, hBG, hrow⟩ := HU2.out
        have hxi : x.toNat < its.length := by rw [hU.len]; exact hx
        have := (hBG.ok x.toNat hxi).rm
        rw [show its[x.toNat] = m by rw [List.getElem?_eq_getElem hxi] at hm; exact Option.some.inj hm] at this
        obtain ⟨A, c, h1, _⟩ := Row.slice this
        exact ⟨A, _, c, by rw [← hmv, h1]⟩
      subst h7
      obtain ⟨its, m, hU, hm, hmv, hBG, hrow⟩ := HU2.out
      have hxi : x.toNat < its.length := by rw [hU.len]; exact hx
      obtain ⟨W9, hW9⟩ : ∃ V, wr.alloc (.cells #[.slice A7 n7 c7] 23) = V := ⟨_, rfl⟩
      have hB9 : Below wr.heap.size wr W9 := by rw [← hW9]; exact below_alloc (Below.refl _ _) _
      have hz9 : W9.heap[wr.heap.size]? = some (.cells #[.slice A7 n7 c7] 23 (0, 0)) := by rw [← hW9]; exact World.alloc_heap_new wr _
      have hBG9 := hBG.below hB9
      have hrow9 := own_below hrow hB9
      have htl : ((its.take x.toNat).map Item.m).length = x.toNat := by simp; omega
      have hRow9 := row_of_own hrow9 htl
      have HALL := Lib.hid (And.intro hU (And.intro hm (And.intro hmv (And.intro hBG9 (And.intro hRow9 hrow9)))))
      have HZ9 := Lib.hid hz9
      have HB9 := Lib.hid (below_step HB2.out hB9)
      have HK9 := Lib.hid (HK2.out.step hB9)
      have HBW := Lib.hid hB9
      have HW := Lib.hid (Nat.le_trans HB0.out.size (Nat.le_refl _))
      have hWwr : W.heap.size ≤ wr.heap.size := HK2.out.size
      obtain ⟨i0, hi0, hzz⟩ := Option.map_eq_some_iff.1 infoIs
      simp only [Prod.mk.injEq] at hzz
      obtain ⟨hz0, hz1, hz2⟩ := hzz
      have HI := Lib.hid (And.intro hi0 (And.intro hz0 (And.intro hz1 hz2)))
      clear hU hm hmv hB9 hz9 hBG hBG9 hrow hrow9 hRow9 hi0 hz0 hz1 hz2 HU2 htl
      go_wp2_with (first | ((with_reducible refine gate_builtin (b := .append) (xs := #[.tmp 34, .tmp 36]) rfl ?_); at_builtin; refine wpList_app rfl (.tmp 34) (.tmp 36) 47 rfl 23 i0 _ 1 24 Tryz.underlying47 HI.out.1 HI.out.2.1 HI.out.2.2.1 HI.out.2.2.2 rfl (by decide) W.heap.size u5 x.toNat ((its.take x.toNat).map Item.m) rfl HALL.out.2.2.2.2.2 ⟨wr.heap.size, 0, none⟩ 1 [.slice A7 n7 c7] rfl rfl (World.news_of_block (cs := #[.slice A7 n7 c7]) (t := 23) (fr := (0, 0)) HZ9.out) (by simp [Value.oneCell']) (by unfold maxLen; omega) (by omega) (Nat.le_trans hWwr HBW.out.size) ?_; intro g cp2 w3 hown hA))
      have HU3 : Hid (∃ its2, Under mkI2 by_ L (x + 1).toNat 0 its2 ∧ BagI_ w0 w3 its2 ∧ w3.ownsRow W.heap.size 23 1 (.slice (some ⟨g, 0, none⟩) (x.toNat + 1) cp2) (x + 1).toNat ((its2.take (x + 1).toNat).map Item.m)) := Lib.hid (by
        obtain ⟨hU, hm, hmv, hBG9, hRow9, hrow9⟩ := HALL.out
        rw [show (x + 1).toNat = x.toNat + 1 by omega]
        refine ⟨its, ?_, hBG9.otherApp hRow9 hA (by decide), ?_⟩
        · have := hU; rw [Int.toNat_natCast] at this; exact this.next
        · rw [List.take_add_one, hm, List.map_append]
          show w3.ownsRow W.heap.size 23 1 _ (x.toNat + 1) ((its.take x.toNat).map Item.m ++ [m.m])
          rw [hmv]; exact hown)
      have hu5 : ∀ b, u5.ownBlock = some b → W.heap.size ≤ b := fun b hb => (World.ownsRow.lt HALL.out.2.2.2.2.2 b hb).1
      have HB3 : Hid (Below w0.heap.size w0 w3) := Lib.hid (below_app HB9.out (fun b hb => Nat.le_trans HW.out (hu5 b hb)) hA)
      have HK3 : Hid (KeptBut 39 W w3) := Lib.hid (HK9.out.appNew hu5 hA)
      clear hA hown HALL HB9 HK9 HZ9 HB2 HK2 hW9 hu5
      go_wp2
      go_roundw
      case measure => simp [intOf]; omega
      case rel => exact ⟨x + 1, rfl, by omega, by omega, HU3, HB3, HK3⟩
  · have q2 : decide (x < (n : Int)) = false := decide_eq_false c2
    have hxn : x.toNat = n := by omega
    rw [hxn] at HU
    have HR : Hid (∀ y, y < n → ∃ Av nv cv Am cm q cq, ReadsI wr p u5 n by_ y Av nv cv Am cm q cq) := Lib.hid fun y hy => by
      obtain ⟨its, hU, hBG, hrow⟩ := HU.out
      exact readsI HN.out (HK.out.kept p _ HOUT.out.1 (fun cs fr h => by simp at h)) HOUT.out.2 HMK.out.1 HMK.out.2 hU hBG hrow (by rw [HN.out]; exact hy)
    have HBK : Hid (BagI_ w0 wr (L.map fun x => start x.1 x.2)) := Lib.hid (by
      obtain ⟨its, hU, hBG, hrow⟩ := HU.out
      have := hBG.back
      rw [under_backI hU] at this
      exact this)
    obtain ⟨W2, hW2⟩ : ∃ V, wr = V := ⟨_, rfl⟩
    rw [hW2] at HR HBK HB HK ⊢
    clear HU hxn hW2 x0 xn c2
    go_wp2_with fail
    clear q2
    go_loopw [9] (fun vi wz => ∃ y : Int, vi = .int .i64 y ∧ 0 ≤ y ∧ y ≤ (n : Int) ∧ Hid (Below W2.heap.size W2 wz)) (fun vi _ => ((n : Int) - intOf vi).toNat)
    case atStart => exact ⟨0, rfl, by omega, by omega, Lib.hid (Below.refl _ _)⟩
    case round =>
    obtain ⟨y, rfl, y0, yn, HZ⟩ := hrel
    by_cases c4 : y < (n : Int)
    · have q4 : decide (y < (n : Int)) = true := decide_eq_true c4
      obtain ⟨Av, nv, cv, Am, cm, q, cq, hR⟩ := HR.out y.toNat (by omega)
      have hyy : ((y.toNat : Nat) : Int) = y := by omega
      have hu5 := hR.more
      have hnv := hR.small
      have HRR := Lib.hid hR
      have o1 := pw_cell_below HZ.out hR.outer
      have y0' := eq_true y0
      have c4' := eq_true c4
      subst hu5
      clear hR
      go_wp2_with fail
      clear o1
      go_loopw [11] (fun vk wz => ∃ k : Int, vk = .int .i64 k ∧ 0 ≤ k ∧ k ≤ (nv : Int) + (by_ : Int) ∧ Hid (Below W2.heap.size W2 wz)) (fun vk _ => ((nv : Int) + (by_ : Int) - intOf vk).toNat)
      case atStart => exact ⟨0, rfl, by omega, by omega, HZ⟩
      case round =>
      clear HZ
      obtain ⟨k, rfl, k0, kn, HZ⟩ := hrel
      by_cases c5 : k < (nv : Int) + (by_ : Int)
      · have q5 : decide (k < (nv : Int) + (by_ : Int)) = true := decide_eq_true c5
        have k0' := eq_true k0
        by_cases c6 : k < (nv : Int)
        · have q6 : decide (k < (nv : Int)) = true := decide_eq_true c6
          have q7 : decide ((nv : Int) ≤ k) = false := decide_eq_false (by omega)
          have c6' := eq_true c6
          have c7' : (k < (nv : Int) + (by_ : Int)) = True := eq_true c5
          obtain ⟨g1, rfl, hg1⟩ := HRR.out.old k.toNat (by omega)
          obtain ⟨g2, rfl, hg2⟩ := HRR.out.new1 k.toNat (by omega)
          rw [hyy] at hg1 hg2
          have hr1 := HRR.out
          have k1 : ∀ dd os, Calls Tryz.prog 26 #[.int .i64 (-1000000 - y)] (Go.Sort.grow (redrawn wr dd) os) fun e w'' => e = .returned (.string (markB (-1000000 - y))) ∧ ∃ p : Regrown, w'' = Go.Sort.grow (redrawn wr p.d) p.os := fun dd os => Calls.regrown_of (mark_calls (-1000000 - y) _ (by omega) (by omega) ((HE.out.below (below_step HB.out HZ.out)).below (below_regrown wr dd os)))
          obtain ⟨nm, hnm⟩ : ∃ b, markB (-1000000 - y) = b := ⟨_, rfl⟩
          rw [hnm] at hg1 hg2 k1
          have z1 := cell_regrown (pw_cell_below HZ.out hr1.outer)
          have z2 := cell_regrown (pw_cell_below HZ.out hg1)
          have z3 := cell_regrown (pw_cell_below HZ.out hr1.moreAt)
          have z4 := cell_regrown (pw_cell_below HZ.out hg2)
          clear hg1 hg2 hnm
          clear hr1
          go_wp2_with fail
          refine wp_region_quiet_below (by kernel_rfl) (by kernel_rfl) ?_
          repeat (go_big_quiet_step (first | (with_reducible exact k1 _ _)))
          refine wpQuiet_nil ?_
          intro _ hw'
          obtain ⟨⟨dq, osq⟩, hw''⟩ := hw'
          subst hw''
          have HB7 := Lib.hid (below_step HZ.out (below_regrown wr dq osq))
          obtain ⟨W7, hW7⟩ : ∃ V, Go.Sort.grow (redrawn wr dq) osq = V := ⟨_, rfl⟩
          rw [hW7] at HB7
          simp only [hW7]
          clear z1 z2 z3 z4 k1 hW7 HZ
          go_wp2
          exact ⟨⟨k + 1, rfl, by omega, by omega, HB7⟩, by simp [intOf]; omega⟩
        · have q6 : decide (k < (nv : Int)) = false := decide_eq_false c6
          have q7 : decide ((nv : Int) ≤ k) = true := decide_eq_true (by omega)
          have c7' : (k < (nv : Int) + (by_ : Int)) = True := eq_true c5
          obtain ⟨g2, rfl, hg2⟩ := HRR.out.new2 k.toNat (by omega) (by omega)
          rw [hyy] at hg2
          have hr1 := HRR.out
          have k1 : ∀ dd os, Calls Tryz.prog 26 #[.int .i64 (-2000000 - y)] (Go.Sort.grow (redrawn wr dd) os) fun e w'' => e = .returned (.string (markB (-2000000 - y))) ∧ ∃ p : Regrown, w'' = Go.Sort.grow (redrawn wr p.d) p.os := fun dd os => Calls.regrown_of (mark_calls (-2000000 - y) _ (by omega) (by omega) ((HE.out.below (below_step HB.out HZ.out)).below (below_regrown wr dd os)))
          obtain ⟨nm, hnm⟩ : ∃ b, markB (-2000000 - y) = b := ⟨_, rfl⟩
          rw [hnm] at hg2 k1
          have z1 := cell_regrown (pw_cell_below HZ.out hr1.outer)
          have z2 : True := trivial
          have z3 := cell_regrown (pw_cell_below HZ.out hr1.moreAt)
          have z4 := cell_regrown (pw_cell_below HZ.out hg2)
          clear hg2 hnm
          clear hr1
          go_wp2_with fail
          refine wp_region_quiet_below (by kernel_rfl) (by kernel_rfl) ?_
          repeat (go_big_quiet_step (first | (with_reducible exact k1 _ _)))
          refine wpQuiet_nil ?_
          intro _ hw'
          obtain ⟨⟨dq, osq⟩, hw''⟩ := hw'
          subst hw''
          have HB7 := Lib.hid (below_step HZ.out (below_regrown wr dq osq))
          obtain ⟨W7, hW7⟩ : ∃ V, Go.Sort.grow (redrawn wr dq) osq = V := ⟨_, rfl⟩
          rw [hW7] at HB7
          simp only [hW7]
          clear z1 z2 z3 z4 k1 hW7 HZ
          go_wp2
          exact ⟨⟨k + 1, rfl, by omega, by omega, HB7⟩, by simp [intOf]; omega⟩
      · have q5 : decide (k < (nv : Int) + (by_ : Int)) = false := decide_eq_false c5
        go_wp2
        go_roundw
        case measure => simp [intOf]; omega
        case rel => exact ⟨y + 1, rfl, by omega, by omega, HZ⟩
    · have q4 : decide (y < (n : Int)) = false := decide_eq_false c4
      go_wp2
      go_ret
      exact ⟨rfl, HBK.out.below HZ.out, below_step HB.out HZ.out, HK.out.step HZ.out⟩
end Go.Proofs.YtgjgafibipepeaaGreatDoor.Bag
