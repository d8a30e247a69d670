import Derived.Test.YtkhnjckkjdldbaaGreatDoorG6
namespace Go.Proofs.YtkhnjckkjdldbaaGreatDoor.Q
open Go.RowKit Go.Proofs.YtkhnjckkjdldbaaGreatDoorW.PrintWords Go.Deep Go.Maps Go.WideShapes
open Go.Proofs.YtkhnjckkjdldbaaGreatDoor.Pr (S57 S59 S77 S61 k57 k77 rd_T57)
open Go.Proofs.YtkhnjckkjdldbaaGreatDoor
open Go.Proofs.YtkhnjckkjdldbaaGreatDoor.Bag (Row encFd own_lower AppTo wpList_app)
set_option linter.unusedVariables false
set_option linter.unusedSimpArgs false
attribute [local go_sem] Oper.semAt_some
attribute [local go_sem high] Pr.eqA57
/-! THE DOCUMENT's FIRE, ADD (printed by mkref2.py) -/
/-- what a loop over the board's list reads at a world behind ws -/
structure ReadI (r : Nat) (A : Option Addr) (n cx : Nat) (L : List S57) (bx : Nat) (ck : Int) (cp : ByteArray) (ws : World) : Prop where
  cr : ws.cell? ⟨r, 0, none⟩ = some (.slice A n cx)
  c : Kd.C k57 ws A L.length L
  box : ws.heap[bx]? = some (.cells #[.int .i8 ck, .string cp] 59 (0, 0))
theorem ReadI.below {r : Nat} {A : Option Addr} {n cx : Nat} {L : List S57} {bx : Nat} {ck : Int} {cp : ByteArray} {ws W : World} (h : ReadI r A n cx L bx ck cp ws) (hB : Below ws.heap.size ws W) : ReadI r A n cx L bx ck cp W :=
  ⟨pw_cell_below hB h.cr, Kd.C_below h.c hB, blkK h.box hB⟩
theorem at_watch {W : World} {L : List S57} {ad : Addr} (h : Kd.C k57 W (some ad) L.length L) {i : Int} (i0 : 0 ≤ i) (hi : i.toNat < L.length) {y : S57} (hy : L[i.toNat] = y) :
    W.cell? (ad.add (i.toNat * 3)) = some (.int .i64 y.f0) ∧ W.cell? ⟨(ad.add (i.toNat * 3)).block, (ad.add (i.toNat * 3)).off + 1, none⟩ = some (.int .i8 y.f1) ∧ W.cell? ⟨(ad.add (i.toNat * 3)).block, (ad.add (i.toNat * 3)).off + 2, none⟩ = some (.string y.f2) := by
  obtain ⟨ad', eA, o0, o1, o2⟩ := Pr.at_T57 h i i0 (by omega)
  have hrd : rd_T57 L i = L[i.toNat] := by simp [rd_T57, List.getD, List.getElem?_eq_getElem hi]
  rw [hrd, hy] at o0 o1 o2
  cases eA
  exact ⟨o0, o1, o2⟩
set_option maxRecDepth 100000 in
set_option maxHeartbeats 16000000 in
theorem rFire_calls {r base : Nat} {x : Value} {L : List S57} {w : World} (ck : Int) (cp : ByteArray) (h : RefI r base x L w) (hp : cp.size ≤ 2147483648) (hr : ∀ y ∈ L, rightB y = true) :
    Calls Tryz.prog 22 #[.pointer (some ⟨r, 0, none⟩), .agg #[.int .i8 ck, .string cp]] w fun e w' => ∃ v, e = .returned v ∧ Row (encF ck cp) 5 w.heap.size 77 w' v (L.filter (hitB ck cp)) ∧ Only (fun k => k = r) w w' ∧ ∃ x', RefI r base x' (L.filter (staysB ck cp)) w' ∧ ∀ k, x'.ownBlock = some k → x.ownBlock = some k ∨ w.heap.size ≤ k := by
  obtain ⟨A, cx, hx, hcx, hcell, hC⟩ := h.read
  have hrw : r < w.heap.size := (Array.getElem?_eq_some_iff.1 h.blk).1
  have HC := Lib.hid (And.intro hC hcell)
  have HRF := Lib.hid h
  have hfew := h.few
  obtain ⟨n, hn⟩ : ∃ n, L.length = n := ⟨_, rfl⟩
  have HN := Lib.hid hn
  rw [hn] at hcx hfew
  obtain ⟨iW, hi, hz0, hz1, hz2⟩ := info_parts infoW
  have HI := Lib.hid (And.intro hi (And.intro hz0 (And.intro hz1 hz2)))
  clear hC hcell h hn hi hz0 hz1 hz2

  obtain ⟨W1, hW1⟩ : ∃ V, w.alloc (.cells #[.int .i8 ck, .string cp] 59) = V := ⟨_, rfl⟩
  have hB1 : Below w.heap.size w W1 := by rw [← hW1]; exact below_alloc (Below.refl _ _) _
  have hz1 : W1.heap[w.heap.size]? = some (.cells #[.int .i8 ck, .string cp] 59 (0, 0)) := by rw [← hW1]; exact World.alloc_heap_new w _
  have e0 := cell_rowK (k := 0) (v := .int .i8 ck) hz1 rfl
  have e1 := cell_rowK (k := 1) (v := .string cp) hz1 rfl
  rw [← hW1] at e0 e1
  have KI := isChange_calls ck cp W1 hp
  obtain ⟨ch, hch⟩ : ∃ c, changeB ck cp = c := ⟨_, rfl⟩
  rw [hch] at KI
  have HCH := Lib.hid hch
  have KI := Lib.hid KI
  have HB1 := Lib.hid hB1
  have HZ1 := Lib.hid hz1
  have HW1 := Lib.hid hW1
  have HRT := Lib.hid hr
  have HX := Lib.hid hx
  clear hch hB1 hz1 hW1 hr
  go_enter Tryz.func22, Tryz.ntmps22
  go_wp2_with fail
  rw [HW1.out]
  refine KI.out.mono ?_
  rintro e ws ⟨rfl, hB⟩
  have HBS := Lib.hid (below_step HB1.out hB)
  have HRI : Hid (ReadI r A n cx L w.heap.size ck cp ws) := Lib.hid ⟨by have h1 := pw_cell_below HBS.out HC.out.2; rw [HN.out] at h1; exact h1, Kd.C_below HC.out.1 HBS.out, blkK HZ1.out hB⟩
  clear KI hB e0 e1 hx
  obtain ⟨iF, hiF, hzF0, hzF1, hzF2⟩ := info_parts infoF
  have HIF := Lib.hid (And.intro hiF (And.intro hzF0 (And.intro hzF1 hzF2)))
  clear hiF hzF0 hzF1 hzF2
  have hsw := HBS.out.size
  cases ch with
  | false =>
    go_wp2
    go_ret
    have e1 : L.filter (hitB ck cp) = [] := by rw [List.filter_eq_nil_iff]; intro y _; unfold hitB; rw [HCH.out]; simp
    have e2 : L.filter (staysB ck cp) = L := by rw [List.filter_eq_self]; intro y _; unfold staysB hitB; rw [HCH.out]; rfl
    rw [e1, e2]
    exact ⟨_, rfl, row_nil _ _ _ _ _, Only.of_below HBS.out, _, HRF.out.below HBS.out, fun k hk => .inl hk⟩
  | true =>
  go_wp2_with fail
  go_loopw [5, 6, 7] (fun vt vl vi wr => ∃ i : Int, vi = .int .i64 i ∧ 0 ≤ i ∧ i ≤ (n : Int) ∧ Hid (TwoI (encF ck cp) 5 77 ws ((L.take i.toNat).filter (hitB ck cp)) ((L.take i.toNat).filter (staysB ck cp)) vt vl wr)) (fun _ _ vi _ => ((n : Int) - intOf vi).toNat)
  case atStart => exact ⟨0, rfl, by omega, by omega, Lib.hid TwoI.start⟩
  case round =>
  obtain ⟨i, rfl, i0, iN, HL⟩ := hrel
  obtain ⟨vt, vl, hvt, hvl⟩ := HL.out.val
  subst hvt
  subst hvl
  have cr := (HRI.out.below HL.out.bel).cr
  by_cases c2 : i < (n : Int)
  · have q2 : decide (i < (n : Int)) = true := decide_eq_true c2
    have hi : i.toNat < L.length := by rw [HN.out]; omega
    obtain ⟨y, hy⟩ : ∃ y, L[i.toNat] = y := ⟨_, rfl⟩
    have HY := Lib.hid hy
    obtain ⟨ad, eA⟩ : ∃ ad, A = some ad := by
      obtain ⟨ad, eA, _⟩ := Pr.at_T57 (HRI.out.below HL.out.bel).c i i0 (by rw [HN.out]; exact c2)
      exact ⟨ad, eA⟩
    subst eA
    have hry : rightB y = true := by rw [← hy]; exact HRT.out _ (List.getElem_mem _)
    have hk2 : kindB y = true ∧ y.f2.size ≤ 64 := by
      unfold rightB at hry
      rw [Bool.and_eq_true] at hry
      exact ⟨hry.1, path_small hry.2⟩
    have HK2 := Lib.hid hk2
    obtain ⟨a, k, p⟩ := y
    have hT : (L.take (i + 1).toNat) = L.take i.toNat ++ [⟨a, k, p⟩] := by
      rw [show (i + 1).toNat = i.toNat + 1 by omega, List.take_add_one, List.getElem?_eq_getElem hi, hy]; rfl
    have HTK := Lib.hid hT
    have hn64 : ((L.take i.toNat).filter (hitB ck cp)).length ≤ 64 ∧ ((L.take i.toNat).filter (staysB ck cp)).length ≤ 64 := by
      have h1 := List.length_filter_le (hitB ck cp) (L.take i.toNat)
      have h3 := List.length_filter_le (staysB ck cp) (L.take i.toNat)
      rw [List.length_take] at h1 h3
      have h2 := HN.out
      omega
    have HL64 := Lib.hid hn64
    have i0' := eq_true i0
    have c2' := eq_true c2
    obtain ⟨mm, hmm⟩ : ∃ v, metB ck cp ⟨a, k, p⟩ = v := ⟨_, rfl⟩
    have HMM := Lib.hid hmm
    clear hT hy hry hk2 hmm hn64 cr

    have cr := (HRI.out.below HL.out.bel).cr
    have g5 := cell_rowK (k := 0) (v := .int .i8 ck) (HRI.out.below HL.out.bel).box rfl
    have g6 := cell_rowK (k := 1) (v := .string cp) (HRI.out.below HL.out.bel).box rfl
    obtain ⟨o0, o1, o2⟩ := at_watch (HRI.out.below HL.out.bel).c i0 hi HY.out

    have k1 : ∀ dd os, Calls Tryz.prog 58 #[.agg #[.int .i8 ck, .string cp], .agg #[.int .i64 a, .int .i8 k, .string p]] (Go.Sort.grow (redrawn wr dd) os) fun e w'' => e = .returned (.bool mm) ∧ ∃ p : Regrown, w'' = Go.Sort.grow (redrawn wr p.d) p.os := fun dd os => Calls.regrown_of (by
      have h1 := meets_calls ck cp ⟨a, k, p⟩ (Go.Sort.grow (redrawn wr dd) os) hp (by have := HK2.out.2; omega) HK2.out.1
      rw [HMM.out] at h1
      exact h1)
    have z0 := cell_regrown o0
    have z1 := cell_regrown o1
    have z2 := cell_regrown o2
    have z5 := cell_regrown g5
    have z6 := cell_regrown g6
    have zr := cell_regrown cr
    simp only at z0 z1 z2
    go_wp2_with fail
    refine wp_region_quiet_below (by kernel_rfl) (by kernel_rfl) ?_
    repeat (go_big_quiet_step (first | (with_reducible exact k1 _ _)))
    refine wpQuiet_nil ?_
    intro _ hw'
    obtain ⟨⟨dq, osq⟩, hw''⟩ := hw'
    subst hw''
    have HL2 := Lib.hid (HL.out.below (below_regrown wr dq osq))
    obtain ⟨W7, hW7⟩ : ∃ V, Go.Sort.grow (redrawn wr dq) osq = V := ⟨_, rfl⟩
    rw [hW7] at HL2
    simp only [hW7]
    clear z0 z1 z2 z5 z6 zr o0 cr o1 o2 g5 g6 k1 HL hW7
    cases mm with
    | false =>
      have HHIT : Hid (hitB ck cp ⟨a, k, p⟩ = false) := Lib.hid (by unfold hitB; rw [HCH.out, HMM.out]; rfl)
      have HSTAY : Hid (staysB ck cp ⟨a, k, p⟩ = true) := Lib.hid (by unfold staysB; rw [HHIT.out]; rfl)

      have cr := (HRI.out.below HL2.out.bel).cr
      have g5 := cell_rowK (k := 0) (v := .int .i8 ck) (HRI.out.below HL2.out.bel).box rfl
      have g6 := cell_rowK (k := 1) (v := .string cp) (HRI.out.below HL2.out.bel).box rfl
      obtain ⟨o0, o1, o2⟩ := at_watch (HRI.out.below HL2.out.bel).c i0 hi HY.out
      simp only at o0 o1 o2

      obtain ⟨W4, hW4⟩ : ∃ V, W7.alloc (.cells #[Value.int .i64 a, Value.int .i8 k, Value.string p] 57) = V := ⟨_, rfl⟩
      have hB4 : Below W7.heap.size W7 W4 := by rw [← hW4]; exact below_alloc (Below.refl _ _) _
      have hz4 := World.alloc_heap_new W7 (.cells #[Value.int .i64 a, Value.int .i8 k, Value.string p] 57)
      rw [hW4] at hz4
      have HR4 := Lib.hid (Bag.own_below (HL2.out.rowL) hB4)
      have HOW := Lib.hid HR4.out
      have HNW := Lib.hid (World.news_of_block hz4)
      have HBS : Hid (ws.heap.size ≤ W4.heap.size) := Lib.hid (Nat.le_trans (HL2.out.bel.size) hB4.size)
      have HB4 := Lib.hid hB4
      have ho1 : ∀ u ∈ [Value.int .i64 a, Value.int .i8 k, Value.string p], u.oneCell' = true := by simp [Value.oneCell']
      have HO1 := Lib.hid ho1
      have HLN := Lib.hid (HL64.out.2)
      rw [← hW4] at HOW HNW HBS
      have HW4 := Lib.hid hW4
      clear hB4 hz4 ho1 hW4
      go_wp2_with (first | (at_builtin; refine wpList_app rfl (.tmp 56) (.tmp 64) 64 rfl 57 iW _ 3 32 Tryz.underlying64 HI.out.1 HI.out.2.1 HI.out.2.2.1 HI.out.2.2.2 rfl (by decide) ws.heap.size _ _ _ rfl HOW.out ⟨W7.heap.size, 0, none⟩ 1 [Value.int .i64 a, Value.int .i8 k, Value.string p] rfl rfl HNW.out HO1.out (by have := HLN.out; unfold maxLen; omega) (by have := HLN.out; omega) HBS.out ?_; intro g7 cap7 w7 hown7 hA7; have H7 := Lib.hid (And.intro hown7 hA7); clear hown7 hA7 o0 o1 o2 cr g5 g6))
      have h7 := H7.out
      rw [HW4.out] at h7

      have HN8 := Lib.hid (((HL2.out.below HB4.out).putL (y := ⟨a, k, p⟩) h7.1 (Grew.of_app h7.2)).rowEq (xs' := (L.take (i + 1).toNat).filter (hitB ck cp)) (ys' := (L.take (i + 1).toNat).filter (staysB ck cp)) (by rw [HTK.out, List.filter_append]; simp [HHIT.out]) (by rw [HTK.out, List.filter_append]; simp [HSTAY.out]))
      clear h7
      go_wp2
      go_roundw
      case measure => simp [intOf]; omega
      case rel => exact ⟨i + 1, rfl, by omega, by omega, HN8⟩
    | true =>
      have HHIT : Hid (hitB ck cp ⟨a, k, p⟩ = true) := Lib.hid (by unfold hitB; rw [HCH.out, HMM.out]; rfl)

      have cr := (HRI.out.below HL2.out.bel).cr
      have g5 := cell_rowK (k := 0) (v := .int .i8 ck) (HRI.out.below HL2.out.bel).box rfl
      have g6 := cell_rowK (k := 1) (v := .string cp) (HRI.out.below HL2.out.bel).box rfl
      obtain ⟨o0, o1, o2⟩ := at_watch (HRI.out.below HL2.out.bel).c i0 hi HY.out

      simp only at o0 o1 o2
      have hOW : W7.ownsRow ws.heap.size 77 5 vt ((L.take i.toNat).filter (hitB ck cp)).length (((L.take i.toNat).filter (hitB ck cp)).flatMap (encF ck cp)) := HL2.out.rowT
      have HOW := Lib.hid hOW
      have hsz7 := HL2.out.bel.size
      have hln := HL64.out.1
      obtain ⟨nt, hnt⟩ : ∃ z, ((L.take i.toNat).filter (hitB ck cp)).length = z := ⟨_, rfl⟩
      have HNT := Lib.hid hnt
      rw [hnt] at HOW hln
      clear hOW hnt
      go_wp2_with fail
      go_region_law (first
        | (refine step_append_lies _ (by rfl) _ _ _ (by rfl) ws.heap.size 77 iF _ 5 56 Tryz.underlying63 HIF.out.1 HIF.out.2.1 HIF.out.2.2.1 HIF.out.2.2.2 rfl (by omega) vt nt _ (by rfl) ((HOW.out.alloc _).drew) ⟨W7.heap.size, 0, none⟩ 1 1 [Value.int .i64 a, Value.int .i8 k, Value.string p, Value.int .i8 ck, Value.string cp] (by rfl) (by rfl) (World.news_of_block (cs := #[Value.int .i64 a, Value.int .i8 k, Value.string p, Value.int .i8 ck, Value.string cp]) (t := 77) (fr := (0, 0)) (heap_alloc_new W7 _)) (by simp [Value.oneCell']) (by omega) (by unfold maxLen; omega) (by omega) (by simp; omega) (W7.heap.size + 1) (by simp) ?_; intro g8 cap8 w8 hown8 hgrow8 hat8 hgl8))
      all_goals (
        have HB8 : Below W7.heap.size W7 ((W7.alloc (.cells #[Value.int .i64 a, Value.int .i8 k, Value.string p, Value.int .i8 ck, Value.string cp] 77)).drew) := below_drew (below_alloc (Below.refl _ _) _)
        have hG8 : Grew ((W7.alloc (.cells #[Value.int .i64 a, Value.int .i8 k, Value.string p, Value.int .i8 ck, Value.string cp] 77)).drew) w8 vt g8 := ⟨hgrow8, by rcases hat8 with h1 | h1; exact .inl h1; exact .inr (by rw [h1]; simp)⟩
        rw [← HNT.out] at hown8
        have HN8 := Lib.hid ((HL2.out.below HB8).putT (x := ⟨a, k, p⟩) hown8 hG8)
        rw [HNT.out] at HN8
        clear HB8 hG8 hown8 hgrow8 hat8 hgl8 cr o0 o1 o2 g5 g6 HOW HL2
        have cr := (HRI.out.below HN8.out.bel).cr
        have g5 := cell_rowK (k := 0) (v := .int .i8 ck) (HRI.out.below HN8.out.bel).box rfl
        have g6 := cell_rowK (k := 1) (v := .string cp) (HRI.out.below HN8.out.bel).box rfl
        obtain ⟨o0, o1, o2⟩ := at_watch (HRI.out.below HN8.out.bel).c i0 hi HY.out
        simp only at o0 o1 o2
        have KG := goes_calls ⟨a, k, p⟩ w8
        obtain ⟨gg, hgg⟩ : ∃ v, goesB ⟨a, k, p⟩ = v := ⟨_, rfl⟩
        rw [hgg] at KG
        have HGG := Lib.hid hgg
        have KG := Lib.hid KG
        clear hgg
        go_wp2_with fail
        refine KG.out.mono ?_
        rintro e w9 ⟨rfl, hB⟩
        have HL9 := Lib.hid (HN8.out.below hB)
        clear KG hB o0 o1 o2 cr g5 g6 HN8
        cases gg with
        | true =>
          have HSTAY : Hid (staysB ck cp ⟨a, k, p⟩ = false) := Lib.hid (by unfold staysB; rw [HHIT.out, HGG.out]; rfl)
          have HN8 := Lib.hid (HL9.out.rowEq (xs' := (L.take (i + 1).toNat).filter (hitB ck cp)) (ys' := (L.take (i + 1).toNat).filter (staysB ck cp)) (by rw [HTK.out, List.filter_append]; simp [HHIT.out]) (by rw [HTK.out, List.filter_append]; simp [HSTAY.out]))
          go_wp2
          go_roundw
          case measure => simp [intOf]; omega
          case rel => exact ⟨i + 1, rfl, by omega, by omega, HN8⟩
        | false =>
          have HSTAY : Hid (staysB ck cp ⟨a, k, p⟩ = true) := Lib.hid (by unfold staysB; rw [HHIT.out, HGG.out]; rfl)
          have cr := (HRI.out.below HL9.out.bel).cr
          have g5 := cell_rowK (k := 0) (v := .int .i8 ck) (HRI.out.below HL9.out.bel).box rfl
          have g6 := cell_rowK (k := 1) (v := .string cp) (HRI.out.below HL9.out.bel).box rfl
          obtain ⟨o0, o1, o2⟩ := at_watch (HRI.out.below HL9.out.bel).c i0 hi HY.out
          simp only at o0 o1 o2

          obtain ⟨W4, hW4⟩ : ∃ V, w9.alloc (.cells #[Value.int .i64 a, Value.int .i8 k, Value.string p] 57) = V := ⟨_, rfl⟩
          have hB4 : Below w9.heap.size w9 W4 := by rw [← hW4]; exact below_alloc (Below.refl _ _) _
          have hz4 := World.alloc_heap_new w9 (.cells #[Value.int .i64 a, Value.int .i8 k, Value.string p] 57)
          rw [hW4] at hz4
          have HR4 := Lib.hid (Bag.own_below (HL9.out.rowL) hB4)
          have HOW := Lib.hid HR4.out
          have HNW := Lib.hid (World.news_of_block hz4)
          have HBS : Hid (ws.heap.size ≤ W4.heap.size) := Lib.hid (Nat.le_trans (HL9.out.bel.size) hB4.size)
          have HB4 := Lib.hid hB4
          have ho1 : ∀ u ∈ [Value.int .i64 a, Value.int .i8 k, Value.string p], u.oneCell' = true := by simp [Value.oneCell']
          have HO1 := Lib.hid ho1
          have HLN := Lib.hid (HL64.out.2)
          rw [← hW4] at HOW HNW HBS
          have HW4 := Lib.hid hW4
          clear hB4 hz4 ho1 hW4
          go_wp2_with (first | (at_builtin; refine wpList_app rfl (.tmp 56) (.tmp 64) 64 rfl 57 iW _ 3 32 Tryz.underlying64 HI.out.1 HI.out.2.1 HI.out.2.2.1 HI.out.2.2.2 rfl (by decide) ws.heap.size _ _ _ rfl HOW.out ⟨w9.heap.size, 0, none⟩ 1 [Value.int .i64 a, Value.int .i8 k, Value.string p] rfl rfl HNW.out HO1.out (by have := HLN.out; unfold maxLen; omega) (by have := HLN.out; omega) HBS.out ?_; intro g7 cap7 w7 hown7 hA7; have H7 := Lib.hid (And.intro hown7 hA7); clear hown7 hA7 o0 o1 o2 cr g5 g6))
          have h7 := H7.out
          rw [HW4.out] at h7

          have HN8 := Lib.hid (((HL9.out.below HB4.out).putL (y := ⟨a, k, p⟩) h7.1 (Grew.of_app h7.2)).rowEq (xs' := (L.take (i + 1).toNat).filter (hitB ck cp)) (ys' := (L.take (i + 1).toNat).filter (staysB ck cp)) (by rw [HTK.out, List.filter_append]; simp [HHIT.out]) (by rw [HTK.out, List.filter_append]; simp [HSTAY.out]))
          clear h7
          go_wp2
          go_roundw
          case measure => simp [intOf]; omega
          case rel => exact ⟨i + 1, rfl, by omega, by omega, HN8⟩
      )
  · have q2 : decide (i < (n : Int)) = false := decide_eq_false c2
    have hin : i.toNat = L.length := by rw [HN.out]; omega
    have HE := HL.out
    rw [hin, List.take_length] at HE
    obtain ⟨A2, cap2, hv2, hc2⟩ := Bag.Row.slice HE.rowL
    obtain ⟨n2, hn2⟩ : ∃ z, (L.filter (staysB ck cp)).length = z := ⟨_, rfl⟩
    rw [hn2] at hv2
    have hBw := below_step HBS.out HE.bel
    have hbr := blkK HRF.out.blk hBw
    have hfz := frozen_rowK (j := 0) hbr
    have HBR := Lib.hid hbr
    have HBW := Lib.hid hBw
    have HE := Lib.hid HE
    clear hin HL hn2 hbr hc2 hBw
    subst hv2
    go_wp2
    go_ret
    have ho : Only (fun k => k = r) w (wr.setCell ⟨r, 0, none⟩ (.slice A2 n2 cap2)) := (Only.of_below (S := fun k => k = r) HBW.out).setCell (p := ⟨r, 0, none⟩) (.inl rfl) _
    have hset : Only (fun k => k = r) wr (wr.setCell ⟨r, 0, none⟩ (.slice A2 n2 cap2)) := (Only.refl (fun k => k = r) wr).setCell (p := ⟨r, 0, none⟩) (.inl rfl) _
    have hb : (wr.setCell ⟨r, 0, none⟩ (.slice A2 n2 cap2)).heap[r]? = some (.cells #[.slice A2 n2 cap2] 82 (0, 0)) := heap_setCell_same wr r 0 _ _ _ HBR.out
    have kT := HE.out.rowT.onlyN hset (fun k hk e => by have := (HE.out.rowT.lt hk).1; omega)
    have kL := HE.out.rowL.onlyN hset (fun k hk e => by have := (HE.out.rowL.lt hk).1; omega)
    exact ⟨_, rfl, own_lower kT hsw, ho, _, HRF.out.turn ho hb (own_lower kL (by have := HRF.out.hi; omega)) (Nat.le_trans (List.length_filter_le _ _) HRF.out.few), fun k hk => .inr (by have := (HE.out.rowL.lt hk).1; omega)⟩
end Go.Proofs.YtkhnjckkjdldbaaGreatDoor.Q
namespace Go.Proofs.YtkhnjckkjdldbaaGreatDoor.Q
open Go.RowKit Go.Proofs.YtkhnjckkjdldbaaGreatDoorW.PrintWords Go.Deep Go.Maps Go.WideShapes
open Go.Proofs.YtkhnjckkjdldbaaGreatDoor.Pr (S57 S59 S77 S61 k57 k77 rd_T57)
open Go.Proofs.YtkhnjckkjdldbaaGreatDoor
open Go.Proofs.YtkhnjckkjdldbaaGreatDoor.Bag (Row encFd own_lower AppTo wpList_app)
set_option linter.unusedVariables false
set_option linter.unusedSimpArgs false
attribute [local go_sem] Oper.semAt_some
attribute [local go_sem high] Pr.eqA57
/-! THE DOCUMENT's ADD -/
open Classical in
noncomputable def addR (L : List S57) (y : S57) : Int × List S57 := if rightB y = false then (1, L) else if y ∈ L then (0, L) else if 64 ≤ L.length then (180, L) else (0, L ++ [y])
theorem two_allocs_eq {w : World} {t : TypeId} {cs : Array Value} : ∃ W1, w.alloc (.cells cs t) = W1 ∧ Below w.heap.size w W1 ∧ W1.heap[w.heap.size]? = some (.cells cs t (0, 0)) := ⟨_, rfl, below_alloc (Below.refl _ _) _, World.alloc_heap_new w _⟩
set_option maxRecDepth 100000 in
set_option maxHeartbeats 16000000 in
theorem rAdd_calls {r base : Nat} {x : Value} {L : List S57} {w : World} (y : S57) (h : RefI r base x L w) (hs : y.f2.size ≤ 2147483648) :
    Calls Tryz.prog 21 #[.pointer (some ⟨r, 0, none⟩), .agg (encW y).toArray] w fun e w' => e = .returned (.int .i64 (addR L y).1) ∧ Only (fun k => k = r ∨ x.ownBlock = some k) w w' ∧ ∃ x', RefI r base x' (addR L y).2 w' ∧ ∀ k, x'.ownBlock = some k → x.ownBlock = some k ∨ w.heap.size ≤ k := by
  obtain ⟨A, cx, hx, hcx, hcell, hC⟩ := h.read
  have hrw : r < w.heap.size := (Array.getElem?_eq_some_iff.1 h.blk).1
  have HC := Lib.hid (And.intro hC hcell)
  have HRF := Lib.hid h
  have hfew := h.few
  have hlo := h.lo
  have hhi := h.hi
  obtain ⟨n, hn⟩ : ∃ n, L.length = n := ⟨_, rfl⟩
  have HN := Lib.hid hn
  rw [hn] at hcx hfew
  obtain ⟨iW, hi, hz0, hz1, hz2⟩ := info_parts infoW
  have HI := Lib.hid (And.intro hi (And.intro hz0 (And.intro hz1 hz2)))
  have HX := Lib.hid hx
  clear hC hcell h hn hi hz0 hz1 hz2 hx
  obtain ⟨a, k, p⟩ := y
  simp only at hs
  obtain ⟨W1, hW1, hB1, hz⟩ := two_allocs_eq (w := w) (t := 57) (cs := #[.int .i64 a, .int .i8 k, .string p])
  have e0 := cell_rowK (k := 0) (v := .int .i64 a) hz rfl
  have e1 := cell_rowK (k := 1) (v := .int .i8 k) hz rfl
  have e2 := cell_rowK (k := 2) (v := .string p) hz rfl
  rw [← hW1] at e0 e1 e2
  have KI := is_calls ⟨a, k, p⟩ W1 hs
  obtain ⟨R, hR⟩ : ∃ b, rightB ⟨a, k, p⟩ = b := ⟨_, rfl⟩
  rw [hR] at KI
  have HR := Lib.hid hR
  have KI := Lib.hid KI
  have HB1 := Lib.hid hB1
  have HZ1 := Lib.hid hz
  have HW1 := Lib.hid hW1
  clear hR hB1 hz hW1
  go_enter Tryz.func21, Tryz.ntmps21
  go_wp2_with fail
  rw [HW1.out]
  refine KI.out.mono ?_
  rintro e ws ⟨rfl, hB⟩
  have HBS := Lib.hid (below_step HB1.out hB)
  have hcs : ws.cell? ⟨r, 0, none⟩ = some (.slice A n cx) := by have h1 := pw_cell_below HBS.out HC.out.2; rw [HN.out] at h1; exact h1
  have HRS := Lib.hid (And.intro hcs (And.intro (Kd.C_below HC.out.1 HBS.out) (blkK HZ1.out hB)))
  have hsw := HBS.out.size
  have hws : w.heap.size < ws.heap.size := (Array.getElem?_eq_some_iff.1 HRS.out.2.2).1
  clear KI hB e0 e1 e2 hcs
  cases R with
  | false =>
    have e1 : addR L ⟨a, k, p⟩ = (1, L) := by unfold addR; rw [HR.out, if_pos rfl]
    go_wp2
    go_ret
    try rw [e1]
    exact ⟨rfl, Only.of_below HBS.out, _, HRF.out.below HBS.out, fun j hj => .inl hj⟩
  | true =>
  go_wp2_with fail
  go_loopw [5] (fun vi wr => ∃ i : Int, vi = .int .i64 i ∧ 0 ≤ i ∧ i ≤ (n : Int) ∧ Hid (∀ j (hj : j < L.length), j < i.toNat → L[j] ≠ ⟨a, k, p⟩) ∧ Hid (Below ws.heap.size ws wr)) (fun vi _ => ((n : Int) - intOf vi).toNat)
  case atStart => exact ⟨0, rfl, by omega, by omega, Lib.hid (fun j hj h0 => absurd h0 (Nat.not_lt_zero _)), Lib.hid (Below.refl _ _)⟩
  case round =>
  obtain ⟨i, rfl, i0, iN, HNI, HL⟩ := hrel
  have cr : wr.cell? ⟨r, 0, none⟩ = some (.slice A n cx) := pw_cell_below HL.out HRS.out.1
  by_cases c2 : i < (n : Int)
  · have q2 : decide (i < (n : Int)) = true := decide_eq_true c2
    have hi : i.toNat < L.length := by rw [HN.out]; omega
    obtain ⟨z, hz⟩ : ∃ z, L[i.toNat] = z := ⟨_, rfl⟩
    have HY := Lib.hid hz
    obtain ⟨ad, eA⟩ : ∃ ad, A = some ad := by
      obtain ⟨ad, eA, _⟩ := Pr.at_T57 (Kd.C_below HRS.out.2.1 HL.out) i i0 (by rw [HN.out]; exact c2)
      exact ⟨ad, eA⟩
    subst eA
    obtain ⟨a0, k0, p0⟩ := z
    obtain ⟨o0, o1, o2⟩ := at_watch (Kd.C_below HRS.out.2.1 HL.out) i0 hi HY.out
    simp only at o0 o1 o2
    have i0' := eq_true i0
    have c2' := eq_true c2
    have bx := blkK HRS.out.2.2 HL.out
    have z0 := cell_regrown o0
    have z1 := cell_regrown o1
    have z2 := cell_regrown o2
    have z3 := cell_regrown (cell_rowK (k := 0) (v := .int .i64 a) bx rfl)
    have z4 := cell_regrown (cell_rowK (k := 1) (v := .int .i8 k) bx rfl)
    have z5 := cell_regrown (cell_rowK (k := 2) (v := .string p) bx rfl)
    have zr := cell_regrown cr
    have hcmp : (a0 == a && (k0 == k && (p0.toList == p.toList))) = eqWB ⟨a, k, p⟩ ⟨a0, k0, p0⟩ := rfl
    obtain ⟨cm, hcm⟩ : ∃ b, eqWB ⟨a, k, p⟩ ⟨a0, k0, p0⟩ = b := ⟨_, rfl⟩
    have HCM := Lib.hid hcm
    rw [hcm] at hcmp
    obtain ⟨b0, hb0⟩ : ∃ b, (a0 == a) = b := ⟨_, rfl⟩
    obtain ⟨b1, hb1⟩ : ∃ b, (k0 == k) = b := ⟨_, rfl⟩
    obtain ⟨b2, hb2⟩ : ∃ b, (p0.toList == p.toList) = b := ⟨_, rfl⟩
    rw [hb0, hb1, hb2] at hcmp
    have HCP := Lib.hid hcmp
    clear hz bx o0 o1 o2 hcm hcmp
    go_wp2_with fail
    refine wp_region_quiet_below (by kernel_rfl) (by kernel_rfl) ?_
    repeat (go_big_quiet_step (fail))
    refine wpQuiet_nil ?_
    intro _ hw'
    obtain ⟨⟨dq, osq⟩, hw''⟩ := hw'
    subst hw''
    have HL2 := Lib.hid (below_step HL.out (below_regrown wr dq osq))
    obtain ⟨W7, hW7⟩ : ∃ V, Go.Sort.grow (redrawn wr dq) osq = V := ⟨_, rfl⟩
    rw [hW7] at HL2
    simp only [hW7]
    clear z0 z1 z2 z3 z4 z5 zr cr HL hW7
    have HB3 := Lib.hid (And.intro hb0 (And.intro hb1 hb2))
    clear hb0 hb1 hb2
    cases hcc : (b0 && (b1 && b2)) with
    | true =>
      have hin : (⟨a, k, p⟩ : S57) ∈ L := by
        have h1 : (⟨a0, k0, p0⟩ : S57) = ⟨a, k, p⟩ := eqWB_iff.1 (by rw [HCM.out, ← HCP.out]; exact hcc)
        rw [← h1, ← HY.out]
        exact List.getElem_mem _
      have e1 : addR L ⟨a, k, p⟩ = (0, L) := by unfold addR; rw [HR.out, if_neg (by simp), if_pos hin]
      rw [Bool.and_eq_true, Bool.and_eq_true] at hcc
      obtain ⟨rfl, rfl, rfl⟩ := hcc
      have HBF := Lib.hid (below_step HBS.out HL2.out)
      go_wp2
      go_ret
      try rw [e1]
      exact ⟨rfl, Only.of_below HBF.out, _, HRF.out.below HBF.out, fun j hj => .inl hj⟩
    | false =>
      have HNX : Hid (∀ j (hj : j < L.length), j < (i + 1).toNat → L[j] ≠ ⟨a, k, p⟩) := Lib.hid (fun j hj hji e => by
        by_cases ej : j = i.toNat
        · subst ej
          rw [HY.out] at e
          have h1 := eqWB_iff.2 e
          rw [HCM.out, ← HCP.out, hcc] at h1
          cases h1
        · exact HNI.out j hj (by omega) e)
      have hcc' := Lib.hid hcc
      clear hcc
      cases b0 <;> cases b1 <;> cases b2 <;> first | (exact absurd hcc'.out (by decide)) | (
        go_wp2
        go_roundw
        case measure => simp [intOf]; omega
        case rel => exact ⟨i + 1, rfl, by omega, by omega, HNX, HL2⟩)
  · have q2 : decide (i < (n : Int)) = false := decide_eq_false c2
    have hin : i.toNat = L.length := by rw [HN.out]; omega
    have hni : (⟨a, k, p⟩ : S57) ∉ L := fun hm => by
      obtain ⟨j, hj, e⟩ := List.getElem_of_mem hm
      exact HNI.out j hj (by omega) e
    have HNI2 := Lib.hid hni
    have HBF := Lib.hid (below_step HBS.out HL.out)
    clear hin hni HNI
    by_cases c3 : 64 ≤ n
    · have q3 : decide ((64 : Int) ≤ (n : Int)) = true := decide_eq_true (by omega)
      have e1 : addR L ⟨a, k, p⟩ = (180, L) := by unfold addR; rw [HR.out, if_neg (by simp), if_neg HNI2.out, if_pos (by rw [HN.out]; exact c3)]
      go_wp2
      go_ret
      try rw [e1]
      exact ⟨rfl, Only.of_below HBF.out, _, HRF.out.below HBF.out, fun j hj => .inl hj⟩
    · have q3 : decide ((64 : Int) ≤ (n : Int)) = false := decide_eq_false (by omega)
      have e1 : addR L ⟨a, k, p⟩ = (0, L ++ [⟨a, k, p⟩]) := by unfold addR; rw [HR.out, if_neg (by simp), if_neg HNI2.out, if_neg (by rw [HN.out]; exact c3)]
      have hRFr := HRF.out.below HBF.out
      have bx := blkK HRS.out.2.2 HL.out
      have d0 := cell_rowK (k := 0) (v := .int .i64 a) bx rfl
      have d1 := cell_rowK (k := 1) (v := .int .i8 k) bx rfl
      have d2 := cell_rowK (k := 2) (v := .string p) bx rfl
      have hOW : wr.ownsRow base 57 3 (.slice A n cx) n (L.flatMap encW) := by
        have h1 := hRFr.row
        rw [HX.out] at h1
        unfold Row at h1
        rw [HN.out] at h1
        exact h1
      have HOW := Lib.hid hOW
      have HBR := Lib.hid hRFr.blk
      have hrl : r < wr.heap.size := (Array.getElem?_eq_some_iff.1 hRFr.blk).1
      have nR := World.new_ne wr ⟨r, 0, none⟩ cr
      have aR : ((wr.alloc (.cells #[.int .i64 a, .int .i8 k, .string p] 57)).drew).cell? ⟨r, 0, none⟩ = some (.slice A n cx) := by
        show (wr.alloc _).cell? _ = _
        exact pw_cell_below (below_alloc (Below.refl wr.heap.size wr) _) cr
      have vr : (Value.slice A n cx).ownBlock ≠ some r := fun e => by have := (World.ownsRow.lt hOW r e).1; omega
      have hbw : base ≤ wr.heap.size := hRFr.hi
      have HWS := Lib.hid HL.out.size
      clear hRFr bx hOW q2 q3
      go_wp2_with fail
      go_region_law (first
        | (refine step_append_lies _ (by rfl) _ _ _ (by rfl) base 57 iW _ 3 32 Tryz.underlying64 HI.out.1 HI.out.2.1 HI.out.2.2.1 HI.out.2.2.2 rfl (by omega) (.slice A n cx) n _ (by rfl) ((HOW.out.alloc _).drew) ⟨wr.heap.size, 0, none⟩ 1 1 [.int .i64 a, .int .i8 k, .string p] (by rfl) (by rfl) (World.news_of_block (cs := #[.int .i64 a, .int .i8 k, .string p]) (t := 57) (fr := (0, 0)) (heap_alloc_new wr _)) (by simp [Value.oneCell']) (by omega) (by unfold maxLen; omega) (by omega) (by simp; omega) (wr.heap.size + 1) (by simp) ?_; intro g8 cap8 w8 hown8 hgrow8 hat8 hgl8; have bR8 := (hgrow8.block r (by simp [World.drew]; omega) (fun e => vr e.symm)).trans ((heap_alloc_old wr (.cells #[.int .i64 a, .int .i8 k, .string p] 57) hrl).trans HBR.out); have xR8 := cell_rowK (k := 0) (v := x) bR8 rfl; have zR8 := frozen_rowK (j := 0) bR8; rw [HX.out, HN.out] at xR8))
      all_goals (
        have hG8 : Grew ((wr.alloc (.cells #[.int .i64 a, .int .i8 k, .string p] 57)).drew) w8 (.slice A n cx) g8 := ⟨hgrow8, by rcases hat8 with h1 | h1; exact .inl h1; exact .inr (by rw [h1]; simp)⟩
        have HBD : Below w.heap.size w ((wr.alloc (.cells #[.int .i64 a, .int .i8 k, .string p] 57)).drew) := below_step HBF.out (below_drew (below_alloc (Below.refl _ _) _))
        have HG := Lib.hid (And.intro hG8 (And.intro HBD (And.intro hown8 bR8)))
        clear hG8 HBD hown8 hgrow8 hat8 hgl8 bR8 cr aR nR d0 d1 d2 HOW
        go_wp2
        go_ret
        try rw [e1]
        obtain ⟨hG8, hBD, hown8, bR8⟩ := HG.out
        have hx8 : x = .slice A n cx := by rw [HX.out, HN.out]
        have ho8 : Only (fun j => j = r ∨ x.ownBlock = some j) w w8 := hG8.only (Only.of_below hBD) (fun j hj => .inl (.inr (by rw [hx8]; exact hj)))
        have ho : Only (fun j => j = r ∨ x.ownBlock = some j) w (w8.setCell ⟨r, 0, none⟩ (.slice (some ⟨g8, 0, none⟩) (n + 1) cap8)) := ho8.setCell (p := ⟨r, 0, none⟩) (.inl (.inl rfl)) _
        have hb : (w8.setCell ⟨r, 0, none⟩ (.slice (some ⟨g8, 0, none⟩) (n + 1) cap8)).heap[r]? = some (.cells #[.slice (some ⟨g8, 0, none⟩) (n + 1) cap8] 82 (0, 0)) := heap_setCell_same w8 r 0 _ _ _ bR8
        have hset : Only (fun j => j = r) w8 (w8.setCell ⟨r, 0, none⟩ (.slice (some ⟨g8, 0, none⟩) (n + 1) cap8)) := (Only.refl (fun j => j = r) w8).setCell (p := ⟨r, 0, none⟩) (.inl rfl) _
        have hrow : Row encW 3 base 57 w8 (.slice (some ⟨g8, 0, none⟩) (n + 1) cap8) (L ++ [⟨a, k, p⟩]) := by
          unfold Row
          rw [List.length_append, List.flatMap_append, HN.out]
          simpa using hown8
        have kR := hrow.onlyN hset (fun j hj e => by have := (hrow.lt hj).1; omega)
        exact ⟨rfl, ho, _, HRF.out.turn ho hb kR (by rw [List.length_append, HN.out]; simp; omega), fun j hj => by
          have hj' : j = g8 := by simpa [Value.ownBlock] using hj.symm
          subst hj'
          rcases hG8.at_ with h1 | h1
          · exact .inl (by rw [hx8]; exact h1)
          · exact .inr (Nat.le_trans hBD.size h1)⟩)
end Go.Proofs.YtkhnjckkjdldbaaGreatDoor.Q
