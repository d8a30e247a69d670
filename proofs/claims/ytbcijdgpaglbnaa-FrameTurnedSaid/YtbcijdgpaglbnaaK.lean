import Derived.Test.YtbcijdgpaglbnaaJ
namespace Go.Proofs.Ytbcijdgpaglbnaa.Q
open Go.RowKit Go.Shelf Go.Proofs.YtbcijdgpaglbnaaW.PrintWords Go.Deep
set_option linter.unusedVariables false
set_option linter.unusedSimpArgs false
attribute [local go_sem] Oper.semAt_some nil_neq some_neq

/-! ALL'S ITERATOR -/
def encA (x : Nat × Nat × Nat) : Array Value := #[.int .i64 ((x.1 : Int) + (8 + (x.2.1 : Int) + 1)), .slice (some ⟨x.2.2, 0, none⟩) x.2.1 x.2.1]
/-- the body of the frame at a place -/
def bodyAt (L : List Nat) (p m : Nat) : List Nat := bodyOf (L.drop p) m
def frameOf (x : Nat × Nat × Nat) : Nat × Nat := (x.1, x.2.1)
def TA (L : List Nat) (b : Nat) (pre : List (Nat × Nat × Nat)) (x : Nat × Nat × Nat) (A : World) : Prop := b ≤ x.2.2 ∧ frameOf x = frameAt L pre.length ∧ A.heap[x.2.2]? = some (.cells (bytesV (bodyAt L x.1 x.2.1)).toArray 5 (0, 0))
theorem frame_fits {L : List Nat} {k : Nat} (hk : k < cnt L) {p m : Nat} (h : (p, m) = frameAt L k) : p + 9 + m ≤ L.length ∧ 1 ≤ m ∧ m ≤ 1048576 := by
  obtain ⟨j, hj⟩ := Option.isSome_iff_exists.1 (cnt_some L k hk)
  have := body_fits hj
  simp only [frameAt, hj, Option.getD_some] at h
  injection h with h1 h2
  subst h1 h2
  exact this
theorem bodyAt_length {L : List Nat} {p m : Nat} (h : p + 9 + m ≤ L.length) : (bodyAt L p m).length = m := by simp [bodyAt, bodyOf]; omega
theorem bodyAt_rdb {w : World} {g p m : Nat} {L : List Nat} (hg : w.heap[g]? = some (.cells (bytesV L).toArray 5 (0, 0))) (h : p + 9 + m ≤ L.length) (hm : L.length ≤ 1099511627776) : RdB w (some ⟨g, 0 + p + 8, none⟩) (bodyAt L p m) :=
  ⟨by rw [bodyAt_length h]; omega, fun _ => ⟨g, 0 + p + 8, rfl, fun i hi => by
    rw [bodyAt_length h] at hi
    rw [cell_of_row w g _ _ _ _ hg]
    have : p + (8 + i) < L.length := by omega
    simp [bytesV, bodyAt, bodyOf, List.getD_eq_getElem?_getD, List.getElem?_take, List.getElem?_drop, hi, Nat.add_assoc, List.getElem?_eq_getElem this]⟩⟩
theorem TA_own (L : List Nat) (b : Nat) (pre : List (Nat × Nat × Nat)) : Own (TA L b pre) := fun x A C row ⟨h0, h1, h2⟩ hg hr => ⟨h0, h1, (grownBy_keeps_cells hg hr h2 rfl).trans h2⟩

/-- where no depth is asked, a round stands at any depth and within any round -/
theorem round_wide {m : Nat} (m' l' : Nat) {P : Program} {l : Nat} {f : FuncId} {tmps : Array Value} {assign body : Code} {w : World} {R : Ending → World → Prop}
    (h : RoundIn Fence.wide m P l f tmps assign body w R) : RoundIn (Fence.wide.inRound l') m' P l f tmps assign body w R := ⟨trivial, fun c cs _ => h.2 c cs (room_wide _)⟩
set_option maxRecDepth 100000 in
set_option maxHeartbeats 4000000 in
theorem all_gives (n : Nat) (hn : 3 ≤ n) (Bs g : Nat) (L : List Nat) (w : World) (hb : Bytes L) (hl : L.length ≤ 1099511627776)
    (hBs : w.heap[Bs]? = some (.cells #[.slice (some ⟨g, 0, none⟩) L.length L.length] 25 (0, 0))) (hg : w.heap[g]? = some (.cells (bytesV L).toArray 5 (0, 0))) :
    Gives Fence.wide n Try.prog 22 #[.pointer (some ⟨Bs, 0, none⟩)] encA (TA L) (fun k => k = Bs ∨ k = g) 4 (cnt L) (fun xs => xs.map frameOf = upto (frameAt L) (cnt L)) w :=
  fun l S J W hW hS hJ hJo hY h0 => by
    have hgW : W.heap[g]? = some (.cells (bytesV L).toArray 5 (0, 0)) := (hW.block g (Array.getElem?_eq_some_iff.1 hg).1).trans hg
    have hBW : W.heap[Bs]? = some (.cells #[.slice (some ⟨g, 0, none⟩) L.length L.length] 25 (0, 0)) := (hW.block Bs (Array.getElem?_eq_some_iff.1 hBs).1).trans hBs
    have gl := (Array.getElem?_eq_some_iff.1 hgW).1
    have bl := (Array.getElem?_eq_some_iff.1 hBW).1
    have J2 := hJ.alloc (.cells #[.slice (some ⟨g, 0, none⟩) L.length L.length] 25) (hJ.alloc (.cells #[.func (.yield l) #[] #[]] 50) h0)
    have HJ := Lib.hid hJ
    have HJo := Lib.hid hJo
    have HY := Lib.hid hY
    have HS := Lib.hid hS
    have HH := Lib.hid (And.intro hgW (And.intro hBW J2))
    have c0 : W.cell? ⟨Bs, 0, none⟩ = some (.slice (some ⟨g, 0, none⟩) L.length L.length) := (cell_of_row W Bs 0 _ _ _ hBW).trans rfl
    clear hJ hJo hY hS h0 J2 hgW hBW hBs hg hW
    refine callsIn_of_wp_marks Try.func22 rfl trivial ?_ rfl
    simp only [Try.ntmps22, List.size_toArray, List.length_cons, List.length_nil, Nat.reduceAdd, Nat.reduceSub, Array.replicate_succ, Array.replicate_zero, List.push_toArray, List.append_toArray, List.nil_append, List.cons_append]
    gi_wp2_with fail
    refine ⟨trivial, fun _ => by omega, (callsIn_wide.2 (inner_call (some ⟨g, 0, none⟩) L.length L.length _)).mono ?_⟩
    rintro e w1 ⟨rfl, rfl⟩
    gi_wp2_with fail
    have by0 := Boxed.new W 50 (.func (.yield l) #[] #[])
    have by1 : Boxed ((W.alloc (.cells #[.func (.yield l) #[] #[]] 50)).alloc (.cells #[.slice (some ⟨g, 0, none⟩) L.length L.length] 25)) W.heap.size 50 (.func (.yield l) #[] #[]) := by0.alloc _
    have bs := Boxed.new (W.alloc (.cells #[.func (.yield l) #[] #[]] 50)) 25 (.slice (some ⟨g, 0, none⟩) L.length L.length)
    have bg : ((W.alloc (.cells #[.func (.yield l) #[] #[]] 50)).alloc (.cells #[.slice (some ⟨g, 0, none⟩) L.length L.length] 25)).heap[g]? = some (.cells (bytesV L).toArray 5 (0, 0)) := by
      rw [heap_alloc_old _ _ (by simp; omega), heap_alloc_old _ _ gl]; exact HH.out.1
    have hsz : ((W.alloc (.cells #[.func (.yield l) #[] #[]] 50)).alloc (.cells #[.slice (some ⟨g, 0, none⟩) L.length L.length] 25)).heap.size = W.heap.size + 2 := by simp
    have j2 := HH.out.2.2
    obtain ⟨W1, hW1⟩ : ∃ V, ((W.alloc (.cells #[.func (.yield l) #[] #[]] 50)).alloc (.cells #[.slice (some ⟨g, 0, none⟩) L.length L.length] 25)) = V := ⟨_, rfl⟩
    rw [World.size_alloc] at bs
    rw [hW1] at by1 bs bg hsz j2 ⊢
    clear by0 HH hW1
    refine range_only rfl (by omega) (gf := 23) (lb := #[.pointer (some ⟨W.heap.size + 1, 0, none⟩)]) rfl trivial (enters_of Try.func23 (by kernel_rfl) rfl)
      (inner_gives _ (by omega) (W.heap.size + 1) g 0 L.length L W1 hb (Nat.le_refl _) hl bs.cell (fun i hi => by
        rw [Nat.zero_add, cell_of_row W1 g i _ _ _ bg]; simp [bytesV, hi, List.getD_eq_getElem?_getD])) (Below.refl _ _) (fun _ => rfl) (fun k hk => by rcases hk with rfl | rfl <;> omega)
      (fun k => S k ∧ k < W.heap.size) (fun k hk => ⟨fun z => by
        rcases z with rfl | rfl
        · omega
        · exact (HS.out _ hk.1).1 (.inr rfl), by omega⟩) (fun _ _ _ _ _ _ h _ _ => h)
      (fun ys A => (∃ xs, xs.map frameOf = ys ∧ J xs A) ∧ Boxed A W.heap.size 50 (.func (.yield l) #[] #[]) ∧ A.heap[g]? = some (.cells (bytesV L).toArray 5 (0, 0)))
      ?own ?only ⟨⟨[], rfl, j2⟩, by1, bg⟩ ?ex ?done
    case own =>
      rintro ys A C row ⟨⟨xs, hx, hj⟩, hb1, hg1⟩ hgr hr
      refine ⟨⟨xs, hx, HJ.out xs A C row hj hgr (fun r e => ⟨by have := (hr r e).1; omega, (hr r e).2⟩)⟩, ?_, ?_⟩
      · exact boxed_own W.heap.size 50 (fun _ : Unit => .func (.yield l) #[] #[]) () A C row hb1 hgr (fun r e => (hr r e).2)
      · exact grown_kept hgr (fun r e => (hr r e).1) hg1 (by omega)
    case only =>
      rintro ys A C ⟨⟨xs, hx, hj⟩, hb1, hg1⟩ ho
      have hb1' : A.heap[W.heap.size]? = _ := hb1
      refine ⟨⟨xs, hx, HJo.out xs A C hj (ho.mono (fun k _ hk => by omega))⟩, ?_, ?_⟩
      · exact (ho.keep (Array.getElem?_eq_some_iff.1 hb1').1 (by omega)).trans hb1'
      · exact (ho.keep (Array.getElem?_eq_some_iff.1 hg1).1 (by omega)).trans hg1
    case ex =>
      apply Exists.intro
      refine ⟨?assign, ?body⟩
      case assign =>
        intro l' x W2 K hK
        simp only [encF]
        gi_wp2
        exact hK
      case body =>
        rintro l' pre ⟨p, m⟩ A ⟨⟨xs, hx, hj⟩, hb1, hg1⟩ hlen hfr hsA
        obtain ⟨f1, f2, f3⟩ := frame_fits hlen hfr
        have x0 := hb1.cell
        have z0 := hb1.frozen
        have hlx : xs.length = pre.length := by rw [← hx]; simp
        have hbl : (bodyAt L p m).length = m := bodyAt_length f1
        have KO := own_calls (some ⟨g, 0 + p + 8, none⟩) (L.length - p - 8) (bodyAt L p m) A.drew (RdB.below (bodyAt_rdb hg1 f1 hl) (below_drew (Below.refl _ A))) (by omega)
        rw [hbl, show 0 + p + 8 = p + 8 by omega] at KO
        have KO1 := Lib.hid KO
        have HP := Lib.hid (And.intro hx (And.intro hj (And.intro hb1 (And.intro hg1 (And.intro hlx hfr)))))
        clear KO hx hj hb1 hg1 hlx hfr
        gi_wp2_with fail
        rename_i KK aK
        have HX := Lib.hid aK
        clear aK
        gi_region_with (first
          | (refine ⟨trivial, fun _ => by omega, (callsIn_wide.2 KO1.out).mono ?_⟩
             rintro e w1 ⟨rfl, hg2, hB2⟩
             have j1 := HJ.out _ _ w1 none (HJ.out _ _ A.drew none HP.out.2.1 (grown_of_below (below_drew (Below.refl _ A))) (fun r e => by cases e)) (grown_of_below hB2) (fun r e => by cases e)
             have x1 : w1.cell? ⟨W.heap.size, 0, none⟩ = some (.func (.yield l) #[] #[]) := pw_cell_below hB2 x0
             obtain ⟨fn, tmps, assign, body, hy, hR⟩ := HY.out xs (p, m, A.heap.size) w1 j1 (by rw [HP.out.2.2.2.2.1]; exact hlen) ⟨by show W.heap.size + 4 ≤ A.heap.size; omega, by rw [HP.out.2.2.2.2.1]; exact HP.out.2.2.2.2.2, hg2⟩ (by have := hB2.size; have e0 : A.drew.heap.size = A.heap.size := rfl; omega)
             simp only [encA] at hy
             have HR := Lib.hid hR
             have HB2 := Lib.hid hB2
             clear hR j1 hg2 hB2)
          | (refine ⟨fun h => absurd h (by decide), (round_wide _ _ HR.out).mono ?_⟩
             rintro e W3 ⟨rfl, hJ3, ho3, hk3⟩
             have H3 := Lib.hid (And.intro hJ3 (And.intro ho3 hk3))
             clear hJ3 ho3 hk3))
        all_goals
          have oA : Only (fun k => S k ∧ k < W.heap.size ∨ W1.heap.size + 2 + 0 ≤ k) A W3 :=
            (Only.of_below (S := fun k => S k ∧ k < W.heap.size ∨ W1.heap.size + 2 + 0 ≤ k) ((below_drew (Below.refl _ A)).trans HB2.out)).trans H3.out.2.1 (fun i _ hi => by
              rcases (HS.out i hi).2 with h | h
              · exact .inl ⟨hi, h⟩
              · exact .inr (by omega))
          have kA : KeepsFrom W1.heap.size A W3 := (KeepsFrom.of_grownBy (grown_of_below ((below_drew (Below.refl _ A)).trans HB2.out)) (fun j e => by cases e)).trans (keepsFrom_mono H3.out.2.2 (by omega))
          have hb3 : A.heap[W.heap.size]? = some (.cells #[.func (.yield l) #[] #[]] 50 (0, 0)) := HP.out.2.2.1
          have hg3 := HP.out.2.2.2.1
          have FIN := Lib.hid (And.intro kA (And.intro oA (And.intro (show Boxed W3 W.heap.size 50 (.func (.yield l) #[] #[]) from (oA.keep (Array.getElem?_eq_some_iff.1 hb3).1 (by omega)).trans hb3) ((oA.keep (Array.getElem?_eq_some_iff.1 hg3).1 (fun z => by
            rcases z with z | z
            · exact (HS.out g z.1).1 (.inr rfl)
            · omega)).trans hg3))))
          clear oA kA hb3 hg3
          refine HX.out _ _ ?_
          gi_wp2
          exact ⟨FIN.out.1, FIN.out.2.1, ⟨xs ++ [(p, m, A.heap.size)], by rw [List.map_append, HP.out.1]; rfl, H3.out.1⟩, FIN.out.2.2.1, FIN.out.2.2.2⟩
    case done =>
      rintro ys A hd ⟨⟨xs, hx, hj⟩, hb1, hg1⟩ hD
      gi_wp2
      refine ⟨by simp, .inl ⟨_, _, rfl, run_takeDeferred hD, ?_⟩⟩
      exact ⟨_, results_none rfl _ _ _, ⟨_, rfl⟩, xs, hx.trans hd, HJ.out.putObj _ hj (by omega) hD rfl⟩
end Go.Proofs.Ytbcijdgpaglbnaa.Q
