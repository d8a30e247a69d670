import Derived.Test.YtkhnjckkjdldbaaGreatDoorK5
namespace Go.Proofs.YtkhnjckkjdldbaaGreatDoor.Q
open Go.RowKit Go.Proofs.YtkhnjckkjdldbaaGreatDoorW.PrintWords Go.Deep Go.Maps Go.WideShapes
open Go.Proofs.YtkhnjckkjdldbaaGreatDoor.Pr (S57 S59 z57 k57 k59)
open Go.Proofs.YtkhnjckkjdldbaaGreatDoor.Bag (AppTo wpList_app own_lower)
set_option linter.unusedVariables false
set_option linter.unusedSimpArgs false
attribute [local go_sem] Oper.semAt_some
/-! ALL -/
theorem infoW : (Tryz.prog.info? 57).map (fun i => (i.zero, i.size, i.bytes)) = some (some (.agg #[.int .i64 0, .int .i8 0, .string ⟨#[]⟩]), 3, 32) := by kernel_rfl
def mkW (x : S57) : Value := .agg (encW x).toArray
theorem inv_watch (key : Value) (kl : Lit) (h : keyOf Tryz.prog 57 key = some kl) : ∃ x, key = mkW x := by
  obtain ⟨x, _, h1, _⟩ := keyOf_watch_inv h
  exact ⟨x, h1⟩
theorem inv_num (v : Value) (y : DataW Unit × List MemPlace) (h : plainElem Tryz.prog 3 v = some y) : ∃ n, v = Value.int .i64 n := by
  obtain ⟨n, h1, _⟩ := plainElem_int_inv Tryz.underlying3 h
  exact ⟨n, h1⟩
theorem nodup_le {α : Type} : ∀ (l m : List α), l.Nodup → (∀ x ∈ l, x ∈ m) → l.length ≤ m.length
  | [], m, _, _ => Nat.zero_le _
  | x :: l, m, hn, hs => by
    rw [List.nodup_cons] at hn
    obtain ⟨s, t, rfl⟩ := List.append_of_mem (hs x List.mem_cons_self)
    have := nodup_le l (s ++ t) hn.2 fun y hy => by
      have h1 := hs y (List.mem_cons_of_mem _ hy)
      rw [List.mem_append] at h1 ⊢
      rcases h1 with h1 | h1
      · exact .inl h1
      · rcases List.mem_cons.1 h1 with h2 | h2
        · subst h2; exact absurd hy hn.1
        · exact .inr h2
    simp only [List.length_append, List.length_cons] at this ⊢
    omega
structure AllI (b r base : Nat) (n : Nat) (P : WN) (D : DataW Unit) (w1 : World) (vo : Value) (xs : List S57) (left : Lit → Bool) (cnt : Nat) (W : World) : Prop where
  rng : W.ranges Tryz.prog 57 (plainElem Tryz.prog 3) b r n D left cnt
  row : W.ownsRow base 57 3 vo xs.length (xs.flatMap encW)
  form : ∃ g cap, vo = .slice (some ⟨g, 0, none⟩) xs.length cap ∧ base ≤ g ∧ g ≠ r
  nod : xs.Nodup
  sub : ∀ x ∈ xs, ∃ m, (x, m) ∈ P
  lef : ∀ p ∈ P, left (keyL p.1) = true ↔ p.1 ∉ xs
  bel : Below w1.heap.size w1 W
theorem AllI.len {b r base n : Nat} {P : WN} {D : DataW Unit} {w1 : World} {vo : Value} {xs : List S57} {left : Lit → Bool} {cnt : Nat} {W : World} (h : AllI b r base n P D w1 vo xs left cnt W) : xs.length ≤ P.length := by
  have h1 : ∀ x ∈ xs, x ∈ P.map Prod.fst := fun x hx => by
    obtain ⟨m, hm⟩ := h.sub x hx
    exact List.mem_map.2 ⟨(x, m), hm, rfl⟩
  have := nodup_le _ _ h.nod h1
  simpa using this
theorem ranges_belowK {b r n : Nat} {D : DataW Unit} {left : Lit → Bool} {cnt : Nat} {w w' : World} (h : w.ranges Tryz.prog 57 (plainElem Tryz.prog 3) b r n D left cnt) (hB : Below w.heap.size w w') : w'.ranges Tryz.prog 57 (plainElem Tryz.prog 3) b r n D left cnt :=
  h.kept (row := none) ⟨hB.os, hB.tape, hB.output, hB.size, fun i hi _ => hB.block i hi⟩ (by simp) (by simp)
/-- one more is collected -/
theorem AllI.more {b r base n : Nat} {P : WN} {D : DataW Unit} {w1 : World} {vo : Value} {xs : List S57} {left : Lit → Bool} {cnt cnt2 : Nat} {W w2 w4 w5 : World} {x : S57} {m : Int} {g cap : Nat}
    (h : AllI b r base n P D w1 vo xs left cnt W) (hM : MapOf D P) (hx : (x, m) ∈ P) (hl : left (keyL x) = true) (hrg : w2.ranges Tryz.prog 57 (plainElem Tryz.prog 3) b r n D (fun z => left z && !z.sameKey (keyL x)) cnt2)
    (hg2 : W.grownBy w2 (some r)) (hB4 : Below w2.heap.size w2 w4) (hown : w5.ownsRow base 57 3 (.slice (some ⟨g, 0, none⟩) (xs.length + 1) cap) (xs.length + 1) (xs.flatMap encW ++ encW x)) (hA : AppTo w4 w5 vo xs.length g cap)
    (hb : b < base) (hr : base ≤ r) (hr2 : r < W.heap.size) (hbase : base = w1.heap.size) :
    AllI b r base n P D w1 (.slice (some ⟨g, 0, none⟩) (xs.length + 1) cap) (xs ++ [x]) (fun z => left z && !z.sameKey (keyL x)) cnt2 w5 := by
  obtain ⟨g0, cap0, hv0, hg0, hgr⟩ := h.form
  have hxn : x ∉ xs := (h.lef (x, m) hx).1 hl
  have hs2 : W.heap.size ≤ w2.heap.size := hg2.size
  have hs4 : w2.heap.size ≤ w4.heap.size := hB4.size
  have hlen : (xs ++ [x]).length = xs.length + 1 := by simp
  have hfl : (xs ++ [x]).flatMap encW = xs.flatMap encW ++ encW x := by rw [List.flatMap_append]; simp
  obtain ⟨row, hgw, hrow, hgg⟩ : ∃ row, w4.grownBy w5 row ∧ (∀ k, row = some k → base ≤ k ∧ k ≠ r) ∧ base ≤ g ∧ g ≠ r := by
    rcases hA with ⟨h1, h2⟩ | ⟨h1, h2⟩
    · rw [hv0] at h1
      simp only [Value.slice.injEq, Option.some.injEq, Addr.mk.injEq, and_true, true_and] at h1
      obtain ⟨rfl, _⟩ := h1
      exact ⟨some g0, h2, fun k e => by cases e; exact ⟨hg0, hgr⟩, hg0, hgr⟩
    · exact ⟨none, h2, (fun k e => (by cases e)), by omega, by omega⟩
  refine ⟨?_, ?_, ⟨g, cap, by rw [hlen], hgg.1, hgg.2⟩, ?_, ?_, ?_, ?_⟩
  · exact (ranges_belowK hrg hB4).kept hgw (fun e => by have := (hrow b e.symm).1; omega) (fun e => (hrow r e.symm).2 rfl)
  · rw [hlen, hfl]; exact hown
  · rw [List.nodup_append]
    exact ⟨h.nod, by simp, fun a ha c hc e => by rw [List.mem_singleton.1 hc] at e; exact hxn (e ▸ ha)⟩
  · intro y hy
    rcases List.mem_append.1 hy with hy | hy
    · exact h.sub y hy
    · rw [List.mem_singleton.1 hy]; exact ⟨m, hx⟩
  · intro p hp
    simp only [Bool.and_eq_true, Bool.not_eq_true']
    rw [h.lef p hp, List.mem_append, not_or]
    refine and_congr Iff.rfl ?_
    rw [List.mem_singleton]
    constructor
    · intro h1 h2
      rw [h2] at h1
      simp [keyL, Lit.sameKey] at h1
    · intro h1
      exact sameKey_ne fun e => h1 (keyL_inj (hM.wf p hp) (hM.wf _ hx) e)
  · have b2 : Below w1.heap.size w1 w2 := ⟨hg2.os.trans h.bel.os, hg2.tape.trans h.bel.tape, hg2.output.trans h.bel.output, Nat.le_trans h.bel.size hg2.size, fun k hk => (hg2.block k (Nat.lt_of_lt_of_le hk h.bel.size) (fun e => by have := Option.some.inj e; omega)).trans (h.bel.block k hk)⟩
    have b4 := below_step b2 hB4
    exact ⟨hgw.os.trans b4.os, hgw.tape.trans b4.tape, hgw.output.trans b4.output, Nat.le_trans b4.size hgw.size, fun k hk => (hgw.block k (Nat.lt_of_lt_of_le hk b4.size) (fun e => by have := (hrow k e.symm).1; omega)).trans (b4.block k hk)⟩
set_option maxRecDepth 100000 in
set_option maxHeartbeats 8000000 in
theorem all_calls {c b : Nat} {came : Int} {P : WN} {w : World} (h : Brd c b came P w) (hc : came < 4611686018427387904) :
    Calls Tryz.prog 13 #[.pointer (some ⟨c, 0, none⟩)] w fun e w' => ∃ v, e = .returned v ∧ w'.ownsRow w.heap.size 57 3 v P.length ((P.map Prod.fst).flatMap encW) ∧ Below w.heap.size w w' := by
  obtain ⟨W1, hW1⟩ : ∃ V, w.alloc (.cells #[.pointer (some ⟨c, 0, none⟩)] 25) = V := ⟨_, rfl⟩
  have hB1 : Below w.heap.size w W1 := by rw [← hW1]; exact below_alloc (Below.refl _ _) _
  have hbx : W1.heap[w.heap.size]? = some (.cells #[.pointer (some ⟨c, 0, none⟩)] 25 (0, 0)) := by rw [← hW1]; exact World.alloc_heap_new w _
  have x0 := cell_rowK (k := 0) (v := .pointer (some ⟨c, 0, none⟩)) hbx rfl
  have hbr := h.below hB1
  have x1 := cell_rowK (k := 1) (v := .map (some b)) hbr.cells rfl
  have hlen := hbr.len 3
  have K1 := Lib.hid (none_brd hbr)
  obtain ⟨D, hm1, hm2⟩ := hbr.map
  have hbl : b < W1.heap.size := hm1.lt
  have hcl : c < W1.heap.size := (Array.getElem?_eq_some_iff.1 hbr.cells).1
  have hxl : w.heap.size < W1.heap.size := (Array.getElem?_eq_some_iff.1 hbx).1
  obtain ⟨N, hN⟩ : ∃ n, P.length = n := ⟨_, rfl⟩
  have hN64 : N ≤ 64 := by rw [← hN]; exact h.few
  rw [hN] at hlen
  have HM := Lib.hid (And.intro hm1 hm2)
  have HBR := Lib.hid (And.intro hbr hbx)
  have HB1 := Lib.hid hB1
  have HN := Lib.hid hN
  have HW := Lib.hid hW1
  rw [← hW1] at x0 x1 hlen
  obtain ⟨iW, hi, hz0, hz1, hz2⟩ := info_parts infoW
  have HI := Lib.hid (And.intro hi (And.intro hz0 (And.intro hz1 hz2)))
  clear h hB1 hbr hbx hm1 hm2 hN hW1 hi hz0 hz1 hz2
  go_enter Tryz.func13, Tryz.ntmps13
  go_wp2_with fail
  rw [HW.out] at x0 x1 hlen ⊢
  refine K1.out.mono ?_
  rintro e w1 ⟨rfl, rfl⟩
  clear K1
  go_wp2_with (first
    | (at_make; refine wpList_make_own _ rfl _ _ 64 rfl w1.heap.size 57 iW _ 3 Tryz.underlying64 HI.out.1 HI.out.2.1 HI.out.2.2.1 .i64 .i64 _ N rfl rfl rfl (by rw [HI.out.2.2.2]; omega) (by unfold maxLen; omega) (Nat.le_refl _) ?_; intro w3 hown3 hgrow3; have H3 := Lib.hid (And.intro hown3 hgrow3); have y0 : w3.cell? ⟨w.heap.size, 0, none⟩ = some (.pointer (some ⟨c, 0, none⟩)) := pw_cell_below ⟨hgrow3.os, hgrow3.tape, hgrow3.output, hgrow3.size, fun i hi => hgrow3.block i hi (by simp)⟩ x0; have y1 : w3.cell? ⟨c, 1, none⟩ = some (.map (some b)) := pw_cell_below ⟨hgrow3.os, hgrow3.tape, hgrow3.output, hgrow3.size, fun i hi => hgrow3.block i hi (by simp)⟩ x1; clear hown3 hgrow3 x0 x1 hlen)
    | (at_range; refine wpList_range_own _ rfl _ 78 rfl 57 3 watch_keyed Tryz.underlying78 (plainElem Tryz.prog 3) b came.toNat D rfl (HM.out.1.kept H3.out.2 (by simp)) ?_; intro w0 hrg0 hg0 hs0; have HR0 := Lib.hid (And.intro hrg0 (And.intro hg0 hs0)); clear hrg0 hg0 hs0 y0 y1))
  obtain ⟨r, hr⟩ : ∃ r, w3.heap.size = r := ⟨_, rfl⟩
  rw [hr] at HR0 ⊢
  rename_i KK aK
  have HK := Lib.hid aK
  have HR := Lib.hid hr
  have hrw : w1.heap.size < r := by
    rw [← hr]
    rcases H3.out.1.2 with ⟨h0, _⟩ | ⟨g, cap, cur, h1, _, h2, _⟩
    · cases h0
    · simp only [Value.slice.injEq, Option.some.injEq, Addr.mk.injEq, and_true] at h1
      rw [h1.1]
      exact (Array.getElem?_eq_some_iff.1 h2).1
  clear aK hr
  have hsz0 : w0.heap.size = r + 1 := HR0.out.2.2
  have hI0 : AllI b r w1.heap.size came.toNat P D w1 (.slice (some ⟨w1.heap.size, 0, none⟩) 0 N) [] (Maps.has D) (Maps.size D) w0 := by
    have hg := HR0.out.2.1
    refine ⟨HR0.out.1, H3.out.1.kept hg (.inr (by simp [Value.ownBlock])), ⟨w1.heap.size, N, rfl, Nat.le_refl _, by omega⟩, List.nodup_nil, fun x hx => (by cases hx), fun p hp => ?_, ?_⟩
    · rw [HM.out.2.has]
      exact ⟨fun _ => List.not_mem_nil, fun _ => ⟨p, hp, rfl⟩⟩
    · have b3 : Below w1.heap.size w1 w3 := ⟨H3.out.2.os, H3.out.2.tape, H3.out.2.output, H3.out.2.size, fun i hi => H3.out.2.block i hi (by simp)⟩
      exact ⟨hg.os.trans b3.os, hg.tape.trans b3.tape, hg.output.trans b3.output, Nat.le_trans b3.size hg.size, fun k hk => (hg.block k (Nat.lt_of_lt_of_le hk b3.size) (by simp)).trans (b3.block k hk)⟩
  have HI0 := Lib.hid hI0
  clear hI0
  go_frame
  go_loopw [3] (fun vo wr => ∃ (xs : List S57) (left : Lit → Bool) (cnt : Nat), Hid (AllI b r w1.heap.size came.toNat P D w1 vo xs left cnt wr)) (fun _ wr => wr.rangeLeft b r)
  case atStart => exact ⟨[], _, _, HI0⟩
  case round =>
    clear HI0 H3 HR0
    obtain ⟨xs, left, cnt, HA⟩ := hrel
    obtain ⟨g, cap, hv, hgB, hgr⟩ := HA.out.form
    subst hv
    have hnl := HA.out.len
    obtain ⟨n, hn⟩ : ∃ n, xs.length = n := ⟨_, rfl⟩
    have HNX := Lib.hid hn
    have HG := Lib.hid (And.intro hgB hgr)
    rw [hn] at hnl ⊢
    have hn64 : n ≤ 64 := by rw [HN.out] at hnl; omega
    clear hn hgB hgr
    go_wp2_with (first
      | (at_next; refine wpList_next_ranges _ rfl _ rfl 57 watch_keyed (plainElem Tryz.prog 3) mkW (Value.int .i64) inv_watch inv_num b r came.toNat _ _ _ rfl HA.out.rng ?_ ?_)
      | go_in)
    · intro hc0 hl0
      have hnd : (P.map Prod.fst).Nodup := by
        unfold List.Nodup
        rw [List.pairwise_map]
        exact HM.out.2.nodup
      have hperm : xs.Perm (P.map Prod.fst) := by
        refine (List.perm_ext_iff_of_nodup HA.out.nod hnd).2 fun x => ⟨fun hx => ?_, fun hx => ?_⟩
        · obtain ⟨m, hm⟩ := HA.out.sub x hx
          exact List.mem_map.2 ⟨(x, m), hm, rfl⟩
        · obtain ⟨q, hq, rfl⟩ := List.mem_map.1 hx
          by_cases hin : q.1 ∈ xs
          · exact hin
          · have := (HA.out.lef q hq).2 hin
            rw [hl0] at this; cases this
      have hnP : n = P.length := by rw [← HNX.out, hperm.length_eq]; simp
      have HNP := Lib.hid hnP
      have KS := sort_calls (c := c) (bx := w.heap.size) (HBR.out.1.below HA.out.bel) (blkK HBR.out.2 HA.out.bel) hc HA.out.row hperm (by have := HG.out.1; omega) (by have := HG.out.1; omega) (by have := HG.out.1; omega)
      rw [HNX.out] at KS
      have KS := Lib.hid KS
      clear hnd hperm hl0 hnP
      go_wp2
      refine HK.out _ _ ?_
      go_wp2_with fail
      refine KS.out.mono ?_
      rintro e w5 ⟨rfl, hown, hgr⟩
      have HF := Lib.hid (And.intro hown hgr)
      clear hown hgr KS
      go_wp2
      go_ret
      have hbe := HA.out.bel
      have hgg := HG.out.1
      refine ⟨_, rfl, own_lower (by have h1 := HF.out.1; rw [← HNP.out] at h1 ⊢; exact h1) HB1.out.size, ?_⟩
      have b1 := below_step HB1.out hbe
      have hge : w.heap.size ≤ w1.heap.size := HB1.out.size
      exact ⟨HF.out.2.os.trans b1.os, HF.out.2.tape.trans b1.tape, HF.out.2.output.trans b1.output, Nat.le_trans b1.size HF.out.2.size, fun i hi => (HF.out.2.block i (Nat.lt_of_lt_of_le hi b1.size) (fun e => by have := Option.some.inj e; omega)).trans (b1.block i hi)⟩
    · intro x nx kl y1 y2 w2 cnt2 hkey hlk hv hat hrg2 hlt hg2 hs2 hen
      obtain ⟨x', hxw, hxe, rfl⟩ := keyOf_watch_inv hkey
      obtain rfl : x = x' := by
        obtain ⟨a, k, p⟩ := x
        obtain ⟨a', k', p'⟩ := x'
        simp [mkW] at hxe
        obtain ⟨rfl, rfl, rfl⟩ := hxe
        rfl
      have hpx : ∃ m, (x, m) ∈ P := (HM.out.2.has_key hxw).1 (has_true_of_atKey hat)
      obtain ⟨m, hpx⟩ := hpx
      obtain ⟨a, k, p⟩ := x
      have hen2 : (Instr.entry (.pointer (some ⟨r, 0, none⟩))).run Tryz.prog w2 = .ok (.tuple #[.agg #[.int .i64 a, .int .i8 k, .string p], .int .i64 nx]) w2 := hen
      have HX := Lib.hid (And.intro hpx (And.intro hlk (And.intro hrg2 (And.intro hlt (And.intro hg2 hs2)))))
      clear hkey hlk hv hat hrg2 hlt hg2 hs2 hen hxw hxe hpx
      simp only [mkW]
      have hrow2 : w2.ownsRow w1.heap.size 57 3 (.slice (some ⟨g, 0, none⟩) n cap) n (xs.flatMap encW) := by
        have h1 := HA.out.row
        rw [HNX.out] at h1
        exact h1.kept HX.out.2.2.2.2.1 (.inr (fun e => HG.out.2 (by simpa [Value.ownBlock] using e)))
      obtain ⟨W4, hW4⟩ : ∃ V, (w2.alloc (.cells #[.int .i64 a, .int .i8 k, .string p] 57)).alloc (.cells #[.int .i64 a, .int .i8 k, .string p] 57) = V := ⟨_, rfl⟩
      have hB4 : Below w2.heap.size w2 W4 := by rw [← hW4]; exact below_alloc (below_alloc (Below.refl _ _) _) _
      have hh := World.alloc_heap_new (w2.alloc (.cells #[.int .i64 a, .int .i8 k, .string p] 57)) (.cells #[.int .i64 a, .int .i8 k, .string p] 57)
      rw [World.size_alloc, hW4] at hh
      have hrow4 : W4.ownsRow w1.heap.size 57 3 (.slice (some ⟨g, 0, none⟩) n cap) n (xs.flatMap encW) := own_move hrow2 fun j hj => hB4.block j (World.ownsRow.lt hrow2 j hj).2
      have hbs : w1.heap.size ≤ W4.heap.size := Nat.le_trans HA.out.bel.size (Nat.le_trans HX.out.2.2.2.2.1.size hB4.size)
      have HOW := Lib.hid hrow4
      have HNW := Lib.hid (World.news_of_block hh)
      have HBS := Lib.hid hbs
      have HB4 := Lib.hid hB4
      have ho1 : ∀ u ∈ [Value.int .i64 a, Value.int .i8 k, Value.string p], u.oneCell' = true := by simp [Value.oneCell']
      have HO1 := Lib.hid ho1
      rw [← hW4] at HOW HNW HBS
      have HW4 := Lib.hid hW4
      clear hrow2 hB4 hh hrow4 hbs ho1 hW4
      go_wp2_with (first | (at_builtin; refine wpList_app rfl (.tmp 22) (.tmp 24) 64 rfl 57 iW _ 3 32 Tryz.underlying64 HI.out.1 HI.out.2.1 HI.out.2.2.1 HI.out.2.2.2 rfl (by decide) w1.heap.size (.slice (some ⟨g, 0, none⟩) n cap) n (xs.flatMap encW) rfl HOW.out ⟨w2.heap.size + 1, 0, none⟩ 1 [.int .i64 a, .int .i8 k, .string p] rfl rfl HNW.out HO1.out (by unfold maxLen; omega) (by omega) HBS.out ?_; intro g5 cap5 w5 hown5 hA5; have H5 := Lib.hid (And.intro hown5 hA5); clear hown5 hA5))
      have HA2 : Hid (AllI b r w1.heap.size came.toNat P D w1 (.slice (some ⟨g5, 0, none⟩) (n + 1) cap5) (xs ++ [⟨a, k, p⟩]) (fun z => left z && !z.sameKey (keyL ⟨a, k, p⟩)) cnt2 w5) := Lib.hid (by
        have h5 := H5.out
        rw [HW4.out] at h5
        rw [← HNX.out] at h5 ⊢
        have hrl := HA.out.rng.lt
        exact AllI.more (m := m) HA.out HM.out.2 HX.out.1 HX.out.2.1 HX.out.2.2.1 HX.out.2.2.2.2.1 HB4.out h5.1 h5.2 hbl (Nat.le_of_lt hrw) hrl rfl)
      exact ⟨⟨_, _, _, HA2⟩, by rw [HA2.out.rng.left_eq, HA.out.rng.left_eq]; exact HX.out.2.2.2.1⟩
end Go.Proofs.YtkhnjckkjdldbaaGreatDoor.Q
