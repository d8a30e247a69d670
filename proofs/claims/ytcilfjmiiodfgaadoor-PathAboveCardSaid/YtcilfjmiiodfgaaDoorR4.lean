import Derived.Test.YtcilfjmiiodfgaaDoorR3
import Derived.Lib.QuietBelowIn
import Derived.Sort.BigQuietIn
namespace Go.Proofs.YtcilfjmiiodfgaaDoor.Q
open Go.RowKit Go.Shelf Go.Proofs.YtcilfjmiiodfgaaDoorW.PrintWords Go.Proofs.YtcilfjmiiodfgaaDoor.Pr
set_option linter.unusedVariables false
set_option linter.unusedSimpArgs false
attribute [local go_sem] Oper.semAt_some func_eql36

/-! GONE OVER TWICE -/
theorem range_z2 {F : Fence} {n : Nat} {P : Program} {α : Type} {g : Operand} {ps : Array Tmp} {assign body : Code} {Q : Exit → Act → World → Prop} {a : Act} {w : World}
    (hro : F.round = none) (h1 : 1 ≤ n) {gf : Nat} {lb : Array Value} (hg : a.eval g = .func (.func gf) #[] lb) (hFg : F.fn gf) (eg : ∀ args w, (callFunc gf args).run P w = .ok (.enter gf args) w)
    {encs : α → Array Value} {Zr Zw : Nat → Prop} {N : Nat} {Qx : List α → α → Prop} {Done Part : List α → Prop} {Pre : World → Prop} (hseq : GivesZ F (n - 1) P gf lb encs Zr Zw N Qx Done Part Pre)
    (hPre : ∀ W, Below w.heap.size w W → Pre W) (hps : ∀ x, (encs x).size = ps.size) (hZ : ∀ k, Zr k → k < w.heap.size) (hZw : ∀ k, Zw k → Zr k)
    (I : List α → World → Prop) (Ix : Code → List α → World → Prop) (hI : OwnFrom w.heap.size I) (hIx : ∀ c, OwnFrom w.heap.size (Ix c)) (hIz : ∀ s A C, I s A → Only Zw A C → I s C) (h0 : I [] w)
    (hex : ∃ a₁ : α → Act,
      (∀ (l : Nat) (x : α) (W : World) (K : Act → World → Prop), K (a₁ x) W →
        assign.wpIn (F.inRound l) (n - 1 - 1) P (Exit.then K (fun _ _ _ => False)) { tmps := (ps.zip (encs x)).foldl (fun t (p, v) => t.setIfInBounds p v) a.tmps, defers := [] } W) ∧
      (∀ (l : Nat) (pre : List α) (x : α) (W : World), I pre W → pre.length < N → Qx pre x →
        body.wpIn (F.inRound l) (n - 1 - 1) P (leavePost w.heap.size (fun k => ¬ Zr k) I Ix (pre ++ [x]) W) (a₁ x) W))
    (Post : World → Prop) (hd : ∀ xs W, Done xs → I xs W → Post W) (cx : Code) (hs : ∀ c pre W, Ix c pre W → c = cx ∧ Post W)
    (hx : ∀ a' W, Q .normal a' W → cx.wpIn F n P Q a' W)
    (hafter : ∀ W, Post W → W.heap[w.heap.size]? = some (.deferred (some [])) → Q .normal { a with defers := { target := .collected w.heap.size, args := #[] } :: a.defers } W) :
    (Code.rangeFunc g ps assign body).wpIn F n P Q a w :=
  range_z hro h1 hg hFg eg hseq hPre hps hZ hZw I Ix hI hIx hIz h0 hex (fun xs W h1 h2 h3 => hafter W (hd xs W h1 h2) h3)
    (fun c pre W _ h2 h3 => by obtain ⟨rfl, hp⟩ := hs c pre W h2; exact hx _ _ (hafter W hp h3))
theorem take_C {W : World} {A : Option Addr} {l : List ByteArray} (h : Kd.C Kd.string W A l.length l) (m : Nat) (hm : m ≤ l.length) : Kd.C Kd.string W A m (l.take m) := by
  obtain ⟨h1, h2, h3⟩ := h
  refine ⟨by rw [List.length_take]; omega, by omega, fun hp => ?_⟩
  obtain ⟨ad, ha, hc⟩ := h3 (by omega)
  refine ⟨ad, ha, fun j p hj => ?_⟩
  have hlt := (List.getElem?_eq_some_iff.1 hj).1
  rw [List.length_take] at hlt
  rw [List.getElem?_take_of_lt (by omega)] at hj
  exact hc j p hj
theorem eq_m (L : List ByteArray) (A B : Option Addr) (m c d : Nat) (w : World) (hm : (L.take m).length = m) (hz : m ≤ 4294967296) (h0 : m ≤ L.length) (h1 : m ≤ c) (h2 : m ≤ d) (hA : Kd.C Kd.string w A m (L.take m)) (hB : Kd.C Kd.string w B L.length L) :
    Calls Tryd.prog 25 #[.slice A m c, .slice B m d] w fun e w' => e = .returned (.bool true) ∧ Below w.heap.size w w' := by
  have hB2 := take_C hB m h0
  have := eq_self (L.take m) A B c d w (by omega) (by omega) (by omega) (by rw [hm]; exact hA) (by rw [hm]; exact hB2)
  rw [hm] at this
  exact this
/-- what lies in memory while the first and the second loop run -/
structure TwI (p : ByteArray) (w3 : World) (B n0 : Nat) (vw : Value) (pre : List ByteArray) (W : World) : Prop where
  sz : n0 ≤ W.heap.size
  want : Boxed W w3.heap.size 31 vw
  fn : Boxed W (w3.heap.size + 1) 9 (.string p)
  coll : Coll B n0 pre W
  b : Below w3.heap.size w3 W
theorem TwI.grown {p : ByteArray} {w3 : World} {B n0 m : Nat} {vw : Value} {pre : List ByteArray} {W W' : World} {row : Option Nat} (h : TwI p w3 B n0 vw pre W) (hg : W.grownBy W' row) (hr : ∀ r, row = some r → m ≤ r ∧ ∃ o : Obj, W.heap[r]? = some o ∧ o.isCells = false) (hB : B < m) (hw : w3.heap.size + 2 ≤ m) : TwI p w3 B n0 vw pre W' :=
  ⟨Nat.le_trans h.sz hg.size, grown_kept hg (fun r e => (hr r e).1) h.want (by omega), grown_kept hg (fun r e => (hr r e).1) h.fn (by omega), h.coll.grown hg hr (by omega), below_of_grown h.b hg (fun k e => by have := (hr k e).1; omega)⟩
theorem TwI.below {p : ByteArray} {w3 : World} {B n0 : Nat} {vw : Value} {pre : List ByteArray} {W W' : World} (h : TwI p w3 B n0 vw pre W) (hB : Below W.heap.size W W') : TwI p w3 B n0 vw pre W' :=
  ⟨Nat.le_trans h.sz hB.size, (hB.block _ h.want.lt).trans h.want, (hB.block _ h.fn.lt).trans h.fn, h.coll.below hB, below_step h.b hB⟩
def AbovePost (w : World) (e : Ending) (w' : World) : Prop := e = .returned (.bool true) ∧ Below w.heap.size w w'
theorem above_end {w W : World} {D0 D1 n : Nat} {tmps : Array Value} {u : Value} (h : Boxed W (w.heap.size + 1) 4 u) (hb : Below w.heap.size w W) (h0 : W.heap[D0]? = some (.deferred (some []))) (h1 : W.heap[D1]? = some (.deferred (some [])))
    (k0 : w.heap.size + 1 < D0) (k1 : D0 < D1) (kk : w.heap.size ≤ D0) (ht : tmps.getD 4 undef = .pointer (some ⟨w.heap.size + 1, 0, none⟩)) :
    LeavesInM Fence.wide n Tryd.prog Tryd.f7 tmps (AbovePost w) [{ target := .collected D1, args := #[] }, { target := .collected D0, args := #[] }] .returning (W.setCell ⟨w.heap.size + 1, 0, none⟩ (.bool true)) := by
  have o1 : Only (fun k => k = w.heap.size + 1) W (W.setCell ⟨w.heap.size + 1, 0, none⟩ (.bool true)) := (Only.refl (fun k => k = w.heap.size + 1) W).setCell (p := ⟨w.heap.size + 1, 0, none⟩) (.inl rfl) _
  have e1 : (W.setCell ⟨w.heap.size + 1, 0, none⟩ (.bool true)).heap[D1]? = some (.deferred (some [])) := (o1.keep (Array.getElem?_eq_some_iff.1 h1).1 (by omega)).trans h1
  have e0 : (W.setCell ⟨w.heap.size + 1, 0, none⟩ (.bool true)).heap[D0]? = some (.deferred (some [])) := (o1.keep (Array.getElem?_eq_some_iff.1 h0).1 (by omega)).trans h0
  have e2 := h.set (.bool true)
  obtain ⟨V, hV⟩ : ∃ V, W.setCell ⟨w.heap.size + 1, 0, none⟩ (.bool true) = V := ⟨_, rfl⟩
  have hbV : Below w.heap.size w V := hV ▸ o1.from hb (fun k hk => by omega)
  rw [hV] at e1 e0 e2 ⊢
  have o2 : Only (fun k => k = D1) V (V.putObj D1 (.deferred none)) := (Only.refl (fun k => k = D1) V).putObj rfl _
  have f0 : (V.putObj D1 (.deferred none)).heap[D0]? = some (.deferred (some [])) := (o2.keep (Array.getElem?_eq_some_iff.1 e0).1 (by omega)).trans e0
  have f2 := o2.blk e2 (by omega)
  have o3 : Only (fun k => k = D0) (V.putObj D1 (.deferred none)) ((V.putObj D1 (.deferred none)).putObj D0 (.deferred none)) := (Only.refl (fun k => k = D0) _).putObj rfl _
  have g2 := o3.blk f2 (by omega)
  refine ⟨by simp, .inl ⟨_, _, rfl, run_takeDeferred e1, ?_⟩⟩
  refine ⟨by simp, .inl ⟨_, _, rfl, run_takeDeferred f0, ?_⟩⟩
  exact ⟨_, results_cells1 rfl _ _ _ ht (agg4 _) (Boxed.cell g2), rfl, o3.from (o2.from hbV (fun k hk => by omega)) (fun k hk => by omega)⟩
set_option maxHeartbeats 16000000 in
set_option maxRecDepth 100000 in
theorem above_main (p : ByteArray) (early : Nat) (w : World) (hs : (p.size : Int) < 2147483632) (he : early ≤ 9223372036854775807) (hT : Tabs w) : Calls Tryd.prog 7 #[.string p, .int .i64 early] w (AbovePost w) := by
  have K1 := Lib.hid (fun w => long_is p w false (by simpa using hs))
  have K2 := Lib.hid (fun w => refAbove_calls p w (by omega))
  have HT := Lib.hid hT
  obtain ⟨i0, hi, hz0, hz1, hz2⟩ := info_parts info9
  have HI := Lib.hid (And.intro hi (And.intro hz0 (And.intro hz1 hz2)))
  have hal := above_len p
  have HL := Lib.hid hal
  clear hT hi hz0 hz1 hz2 hal
  refine (callsIn_wide (n := 5)).1 ?_
  refine callsIn_of_wp_marks Tryd.func7 rfl trivial ?_ rfl
  simp only [Tryd.ntmps7, List.size_toArray, List.length_cons, List.length_nil, Nat.reduceAdd, Nat.reduceSub, Array.replicate_succ, Array.replicate_zero, List.push_toArray, List.append_toArray, List.nil_append, List.cons_append]
  have b0 : Boxed ((w.alloc (.cells #[.int .i64 early] 3)).alloc (.cells #[.bool false] 4)) w.heap.size 3 (.int .i64 early) := (Boxed.new w 3 _).alloc _
  have b1 : Boxed ((w.alloc (.cells #[.int .i64 early] 3)).alloc (.cells #[.bool false] 4)) (w.heap.size + 1) 4 (.bool false) := by
    have := Boxed.new (w.alloc (.cells #[.int .i64 early] 3)) 4 (.bool false)
    rw [World.size_alloc] at this; exact this
  have bw : Below w.heap.size w ((w.alloc (.cells #[.int .i64 early] 3)).alloc (.cells #[.bool false] 4)) := below_alloc (below_alloc (Below.refl _ w) _) _
  gi_wp2_with fail
  obtain ⟨w0, hw0⟩ : ∃ V, ((w.alloc (.cells #[.int .i64 early] 3)).alloc (.cells #[.bool false] 4)) = V := ⟨_, rfl⟩
  rw [hw0] at b0 b1 bw
  rw [hw0]
  have H0 := Lib.hid (And.intro b0 (And.intro b1 bw))
  clear hw0 b0 b1 bw
  refine ⟨trivial, (callsIn_wide.2 (K1.out w0)).mono ?_⟩
  rintro e w1 ⟨rfl, hB⟩
  have b0 := (hB.block _ H0.out.1.lt).trans H0.out.1
  have b1 := (hB.block _ H0.out.2.1.lt).trans H0.out.2.1
  have hb := below_step H0.out.2.2 hB
  have c0 := Boxed.cell b0
  have q0 : decide ((early : Int) < 0) = false := by simp
  have q1 : ((early : Int) < 0) = False := by simp
  have H1 := Lib.hid (And.intro b0 (And.intro b1 hb))
  clear hB b0 b1 hb
  gi_wp2_with fail
  refine ⟨trivial, (callsIn_wide.2 (lives_calls w1 (tabs_from HT.out H1.out.2.2))).mono ?_⟩
  rintro e w2 ⟨rfl, hB⟩
  have b0 := (hB.block _ (Boxed.lt H1.out.1)).trans H1.out.1
  have b1 := (hB.block _ (Boxed.lt H1.out.2.1)).trans H1.out.2.1
  have hb := below_step H1.out.2.2 hB
  have H2 := Lib.hid (And.intro b0 (And.intro b1 hb))
  clear hB b0 b1 hb c0
  gi_wp2_with fail
  refine ⟨trivial, (callsIn_wide.2 (K2.out w2)).mono ?_⟩
  rintro e w3 ⟨v, rfl, hR, hB⟩
  obtain ⟨A0, c0, rfl, hd, hD⟩ := Kd.R_reads hR
  have b0 := (hB.block _ (Boxed.lt H2.out.1)).trans H2.out.1
  have b1 := (hB.block _ (Boxed.lt H2.out.2.1)).trans H2.out.2.1
  have hb := below_step H2.out.2.2 hB
  have H3 := Lib.hid (And.intro b0 (And.intro b1 (And.intro hb hD)))
  clear hB b0 b1 hb hD hR
  gi_wp2_with fail
  refine ⟨trivial, (callsIn_wide.2 (above_call p _)).mono ?_⟩
  rintro e w4 ⟨rfl, rfl⟩
  obtain ⟨vw, hvw⟩ : ∃ x, Value.slice A0 (aboveP p).length c0 = x := ⟨_, rfl⟩
  have t0 : TwI p w3 (w3.heap.size + 2) (w3.heap.size + 3) vw [] (((w3.alloc (.cells #[vw] 31)).alloc (.cells #[.string p] 9)).alloc (.cells #[.slice none 0 0] 31)) := by
    have a1 := Boxed.new w3 31 vw
    have a2 := Boxed.new (w3.alloc (.cells #[vw] 31)) 9 (.string p)
    have a3 := Boxed.new ((w3.alloc (.cells #[vw] 31)).alloc (.cells #[.string p] 9)) 31 (.slice none 0 0)
    rw [World.size_alloc] at a2
    rw [World.size_alloc, World.size_alloc] at a3
    exact ⟨by simp, (a1.alloc _).alloc _, a2.alloc _, ⟨_, a3, World.ownsRow_nil _ _ _ _⟩, below_alloc (below_alloc (below_alloc (Below.refl _ _) _) _) _⟩
  have hsz : (((w3.alloc (.cells #[vw] 31)).alloc (.cells #[.string p] 9)).alloc (.cells #[.slice none 0 0] 31)).heap.size = w3.heap.size + 3 := by simp
  rw [hvw]
  gi_wp2_with fail
  obtain ⟨w5, hw5⟩ : ∃ V, (((w3.alloc (.cells #[vw] 31)).alloc (.cells #[.string p] 9)).alloc (.cells #[.slice none 0 0] 31)) = V := ⟨_, rfl⟩
  rw [hw5] at t0 hsz
  rw [hw5]
  have H5 := Lib.hid t0
  clear hw5 t0
  rename_i KK aK
  have HX := Lib.hid aK
  clear aK
  have He := Lib.hid (fun (W : World) (hB : Below w3.heap.size w3 W) => (hB.block _ (Boxed.lt H3.out.1)).trans H3.out.1)
  have Hr := Lib.hid (fun (W : World) (hB : Below w3.heap.size w3 W) => (hB.block _ (Boxed.lt H3.out.2.1)).trans H3.out.2.1)
  have Hbw := Lib.hid H3.out.2.2.1.size
  have Hlt := Lib.hid (Boxed.lt H3.out.2.1)
  have Hlt0 := Lib.hid (Boxed.lt H3.out.1)
  refine range_z2 (F := Fence.wide) rfl (by decide) (gf := 40) (lb := #[.pointer (some ⟨w3.heap.size + 1, 0, none⟩)]) rfl trivial (enters_of Tryd.func40 (by kernel_rfl) rfl)
    (above_gives _ (by decide) (w3.heap.size + 1) p (by omega)) (fun W hB => ⟨(hB.block _ (by omega)).trans H5.out.fn, tabs_from HT.out (below_step H3.out.2.2.1 (below_step H5.out.b hB))⟩) (fun _ => rfl) (fun k hk => by omega) (fun k hk => hk.elim)
    (fun pre W => pre.length ≤ early ∧ TwI p w3 (w3.heap.size + 2) (w3.heap.size + 3) vw pre W)
    (fun c _ W => c = .exit 0 ∧ TwI p w3 (w3.heap.size + 2) (w3.heap.size + 3) vw ((aboveP p).take early) W) ?hI ?hIx ?hIz ⟨by simp, H5.out⟩ ?ex
    (fun W => TwI p w3 (w3.heap.size + 2) (w3.heap.size + 3) vw ((aboveP p).take early) W) (fun xs W h1 h2 => by rw [List.take_of_length_le (by rw [← h1]; exact h2.1), ← h1]; exact h2.2) (.exit 0) (fun c pre W h => h) ?hx ?after
  case hI =>
    rintro pre A C row h hg hr
    exact ⟨h.1, h.2.grown hg hr (by omega) (by omega)⟩
  case hIx =>
    rintro c pre A C row h hg hr
    exact ⟨h.1, h.2.grown hg hr (by omega) (by omega)⟩
  case hIz =>
    rintro pre A C h ho
    exact ⟨h.1, h.2.below ⟨ho.os, ho.tape, ho.output, ho.size, fun k hk => ho.block k hk (fun h => h)⟩⟩
  case hx =>
    intro a' W hq
    gi_wp2
    exact hq
  case ex =>
    apply Exists.intro
    refine ⟨?assign, ?body⟩
    case assign =>
      intro l' x W2 K hK
      simp only [encT]
      gi_wp2
      exact hK
    case body =>
      rintro l' pre x A ⟨hle, hI⟩ hlen ⟨rest, hnx⟩
      obtain ⟨v, hv, hrow⟩ := hI.coll
      have hpl : pre.length ≤ 64 := by have := HL.out; rw [hnx] at this; simp at this; omega
      obtain ⟨av, cv, hve, hnc⟩ := own_sliceN hrow
      subst hve
      have hAs := hI.sz
      have x0 := Boxed.cell (He.out A hI.b)
      have x1 := hv.cell
      have H := Lib.hid (And.intro hI (And.intro hv (And.intro hrow hnx)))
      clear hv hrow hI hnx
      by_cases hge : early ≤ pre.length
      · have q1 : decide ((early : Int) ≤ (pre.length : Int)) = true := by simp; omega
        gi_wp2
        have htk : (aboveP p).take early = pre := by rw [H.out.2.2.2, List.take_append_of_le_length (by omega), List.take_of_length_le (by omega)]
        exact ⟨KeepsFrom.refl _ _, rfl, by rw [htk]; exact H.out.1⟩
      · have q1 : decide ((early : Int) ≤ (pre.length : Int)) = false := by simp; omega
        gi_wp2_with (gi_at_builtin; refine wpListIn_append_own _ rfl _ _ 31 rfl (w3.heap.size + 3) 9 i0 (.string ⟨#[]⟩) 1 16 Tryd.underlying31 HI.out.1 HI.out.2.1 HI.out.2.2.1 HI.out.2.2.2 rfl (by decide) _ _ _ rfl (H.out.2.2.1.alloc _) ⟨A.heap.size, 0, none⟩ 1 1 [.string x] rfl rfl (cell_one_new _ _ _) (by simp [Value.oneCell']) (by unfold maxLen; omega) (by omega) (by simp; omega) ?_; intro v' W1 hown' hgrow _; obtain ⟨g', cap', rfl⟩ := ownsRow_succ hown'; have hst := Coll.step H.out.2.1 H.out.2.2.1 (by omega) hAs hown' hgrow; have hc1 := hst.1.cell; have hf1 := hst.1.frozen; have HST := Lib.hid hst; clear hst hown' hgrow)
        refine ⟨HST.out.2.2.1.from _, HST.out.2.2.2.mono (fun k _ hk => by omega), by simp; omega, ?_⟩
        exact ⟨Nat.le_trans hAs HST.out.2.2.2.size, HST.out.2.2.2.blk H.out.1.want (by omega), HST.out.2.2.2.blk H.out.1.fn (by omega), HST.out.2.1, HST.out.2.2.2.from H.out.1.b (fun k hk => by omega)⟩
  case after =>
    intro A hI hD
    rw [hsz] at hD
    have hAs := hI.sz
    obtain ⟨v, hv, hrow⟩ := hI.coll
    obtain ⟨av, cv, rfl, hcv, hC⟩ := own_texts hrow (by have := HL.out; rw [List.length_take]; omega)
    have x0 := Boxed.cell (He.out A hI.b)
    have x1 := hv.cell
    have x2 := hI.want.cell
    rw [← hvw] at x2
    have hC3 := Kd.C_below H3.out.2.2.2 hI.b
    obtain ⟨L, hL⟩ : ∃ L, aboveP p = L := ⟨_, rfl⟩
    have HLL := Lib.hid hL
    have hLn := HL.out
    have hdL := hd
    rw [hL] at hcv hdL x1 x2 hrow hC hC3 hLn hI
    have H := Lib.hid (And.intro hI (And.intro hv (And.intro hrow (And.intro hD (And.intro hC hC3)))))
    clear hv hrow hI hD hC hC3 hL
    obtain ⟨m, hm⟩ : ∃ m, (L.take early).length = m := ⟨_, rfl⟩
    rw [hm] at x1 hcv
    have hmL : m ≤ L.length := by rw [← hm, List.length_take]; omega
    have hmt : L.take early = L.take m := by rw [← hm, List.length_take, ← List.take_eq_take_min]
    by_cases hlt : early < L.length
    · have q1 : decide ((early : Int) < (L.length : Int)) = true := by simp; omega
      obtain rfl : early = m := by rw [← hm, List.length_take]; omega
      have HMM := Lib.hid (And.intro hm (by have := H.out.2.2.2.2.1; rw [hm] at this; exact this))
      clear hm
      have y1 := cell_regrown x1
      have y2 := cell_regrown x2
      have KE : ∀ d os, Calls Tryd.prog 25 #[.slice av early cv, .slice A0 early c0] (Go.Sort.grow (redrawn A d) os) fun e w'' => e = .returned (.bool true) ∧ ∃ p : Regrown, w'' = Go.Sort.grow (redrawn A p.d) p.os := fun d os => Calls.regrown_of (eq_m L av A0 early cv c0 _ HMM.out.1 (by omega) (by omega) (by omega) (by omega) (Kd.C_below HMM.out.2 (below_regrown A d os)) (Kd.C_below H.out.2.2.2.2.2 (below_regrown A d os)))
      refine HX.out _ _ ?_
      gi_wp2_with fail
      refine wpIn_wide.2 ?_
      refine wp_region_quiet_below (by kernel_rfl) (by kernel_rfl) ?_
      repeat (go_big_quiet_step (exact KE _ _))
      refine wpQuiet_nil ?_
      intro _ hw'
      obtain ⟨⟨dq, osq⟩, hw''⟩ := hw'
      subst hw''
      have HBq := Lib.hid (below_regrown A dq osq)
      have hvq := (HBq.out.block _ (Boxed.lt H.out.2.1)).trans H.out.2.1
      have hDq := (HBq.out.block _ (Array.getElem?_eq_some_iff.1 H.out.2.2.2.1).1).trans H.out.2.2.2.1
      have TQ := H.out.1.below HBq.out
      have HTQ := Lib.hid (And.intro TQ (And.intro hvq hDq))
      clear KE x0 x1 x2 y1 y2 q1 hDq TQ
      obtain ⟨A2, hA2⟩ : ∃ V, Go.Sort.grow (redrawn A dq) osq = V := ⟨_, rfl⟩
      rw [hA2] at HTQ hvq HBq
      have z1 := Boxed.cell hvq
      have z2 := Boxed.frozen hvq
      simp only [hA2]
      clear hA2 hvq
      gi_wp2_with fail
      obtain ⟨A3, hA3⟩ : ∃ V, A2.setCell ⟨w3.heap.size + 1 + 1, 0, none⟩ (.slice none 0 0) = V := ⟨_, rfl⟩
      have o3 : Only (fun k => k = w3.heap.size + 2) A2 A3 := hA3 ▸ (Only.refl (fun k => k = w3.heap.size + 2) A2).setCell (p := ⟨w3.heap.size + 1 + 1, 0, none⟩) (.inl rfl) _
      have b3 : Boxed A3 (w3.heap.size + 2) 31 (.slice none 0 0) := hA3 ▸ (show Boxed A2 (w3.heap.size + 2) 31 _ from HTQ.out.2.1).set (.slice none 0 0)
      have hz3 := o3.size
      have hzq := Array.getElem?_eq_some_iff.1 HTQ.out.2.2
      have T3 : TwI p w3 (w3.heap.size + 2) A3.heap.size vw [] A3 := ⟨Nat.le_refl _, o3.blk HTQ.out.1.want (by omega), o3.blk HTQ.out.1.fn (by omega), ⟨_, b3, World.ownsRow_nil _ _ _ _⟩, o3.from HTQ.out.1.b (fun k hk => by omega)⟩
      have D3 : A3.heap[w3.heap.size + 3]? = some (.deferred (some [])) := (o3.keep hzq.1 (by omega)).trans HTQ.out.2.2
      have hq3 : w3.heap.size + 3 < A3.heap.size := Nat.lt_of_lt_of_le hzq.1 hz3
      have HT3 := Lib.hid (And.intro T3 D3)
      simp only [hA3]
      clear hA3 o3 b3 hz3 hzq T3 D3 z1 z2
      rename_i K2 aK2
      have HX2 := Lib.hid aK2
      clear aK2
      refine range_z (F := Fence.wide) rfl (by decide) (gf := 40) (lb := #[.pointer (some ⟨w3.heap.size + 1, 0, none⟩)]) rfl trivial (enters_of Tryd.func40 (by kernel_rfl) rfl)
        (above_gives _ (by decide) (w3.heap.size + 1) p (by omega)) (fun W hB => ⟨(hB.block _ (by omega)).trans HT3.out.1.fn, tabs_from HT.out (below_step H3.out.2.2.1 (below_step HT3.out.1.b hB))⟩) (fun _ => rfl) (fun k hk => by omega) (fun k hk => hk.elim)
        (fun pre W => TwI p w3 (w3.heap.size + 2) A3.heap.size vw pre W ∧ W.heap[w3.heap.size + 3]? = some (.deferred (some [])))
        (fun c _ W => False) ?hI2 ?hIx2 ?hIz2 HT3.out ?ex2 ?done2 (fun c pre W _ h => h.elim)
      case hI2 =>
        rintro pre A C row h hg hr
        exact ⟨h.1.grown hg hr (by omega) (by omega), grown_kept hg (fun r e => (hr r e).1) h.2 (by omega)⟩
      case hIx2 =>
        rintro c pre A C row h hg hr
        exact h.elim
      case hIz2 =>
        rintro pre A C h ho
        have hB : Below A.heap.size A C := ⟨ho.os, ho.tape, ho.output, ho.size, fun k hk => ho.block k hk (fun h => h)⟩
        exact ⟨h.1.below hB, (hB.block _ (Array.getElem?_eq_some_iff.1 h.2).1).trans h.2⟩
      case ex2 =>
        apply Exists.intro
        refine ⟨?assign, ?body⟩
        case assign =>
          intro l' x W2 K hK
          simp only [encT]
          gi_wp2
          exact hK
        case body =>
          rintro l' pre x A4 ⟨hI, hD⟩ hlen ⟨rest, hnx⟩
          obtain ⟨v, hv, hrow⟩ := hI.coll
          have hpl : pre.length ≤ L.length := by rw [← HLL.out, hnx]; simp
          obtain ⟨av2, cv2, hve, hnc⟩ := own_sliceN hrow
          subst hve
          have hAs := hI.sz
          have x1 := hv.cell
          have x2 := hI.want.cell
          rw [← hvw, HLL.out] at x2
          have H4 := Lib.hid (And.intro hI (And.intro hv (And.intro hrow (And.intro hnx hD))))
          clear hv hrow hI hnx hD
          clear hlen
          have q1 : decide ((L.length : Int) < (pre.length : Int)) = false := by simp; omega
          have q2 : decide ((pre.length : Int) > (L.length : Int)) = false := by simp; omega
          have q3 : ((L.length : Int) < (pre.length : Int)) = False := by simp; omega
          gi_wp2_with (gi_at_builtin; refine wpListIn_append_own _ rfl _ _ 31 rfl A3.heap.size 9 i0 (.string ⟨#[]⟩) 1 16 Tryd.underlying31 HI.out.1 HI.out.2.1 HI.out.2.2.1 HI.out.2.2.2 rfl (by decide) _ _ _ rfl (H4.out.2.2.1.alloc _) ⟨A4.heap.size, 0, none⟩ 1 1 [.string x] rfl rfl (cell_one_new _ _ _) (by simp [Value.oneCell']) (by unfold maxLen; omega) (by omega) (by simp; omega) ?_; intro v' W1 hown' hgrow _; obtain ⟨g', cap', rfl⟩ := ownsRow_succ hown'; have hst := Coll.step H4.out.2.1 H4.out.2.2.1 (by omega) hAs hown' hgrow; have hc1 := hst.1.cell; have hf1 := hst.1.frozen; have HST := Lib.hid hst; clear hst hown' hgrow)
          refine ⟨HST.out.2.2.1.from _, HST.out.2.2.2.mono (fun k _ hk => by omega), ⟨Nat.le_trans hAs HST.out.2.2.2.size, HST.out.2.2.2.blk H4.out.1.want (by omega), HST.out.2.2.2.blk H4.out.1.fn (by omega), HST.out.2.1, HST.out.2.2.2.from H4.out.1.b (fun k hk => by omega)⟩, ?_⟩
          exact (HST.out.2.2.2.keep (Array.getElem?_eq_some_iff.1 H4.out.2.2.2.2).1 (by omega)).trans H4.out.2.2.2.2
      case done2 =>
        rintro xs A4 hxs ⟨hI, hD0⟩ hD1
        rw [HLL.out] at hxs
        subst hxs
        obtain ⟨v, hv, hrow⟩ := hI.coll
        obtain ⟨av2, cv2, rfl, hcv2, hC2⟩ := own_texts hrow (by omega)
        have x1 := hv.cell
        have x2 := hI.want.cell
        rw [← hvw, HLL.out] at x2
        have hC3' := Kd.C_below H3.out.2.2.2 hI.b
        rw [HLL.out] at hC3'
        have H4 := Lib.hid (And.intro hI (And.intro hD0 (And.intro hD1 (And.intro hC2 hC3'))))
        clear hv hrow hI hD0 hD1 hC2 hC3'
        refine HX2.out _ _ ?_
        gi_wp2_with fail
        refine ⟨trivial, (callsIn_wide.2 (eq_self xs av2 A0 cv2 c0 A4 (by omega) hcv2 hdL H4.out.2.2.2.1 H4.out.2.2.2.2)).mono ?_⟩
        rintro e A5 ⟨rfl, hB5⟩
        have r5 := Hr.out A5 (below_step H4.out.1.b hB5)
        have r6 := Boxed.frozen r5
        have r7 := Boxed.cell r5
        have H5' := Lib.hid (And.intro r5 (And.intro (below_step (below_step H3.out.2.2.1 H4.out.1.b) hB5) (And.intro ((hB5.block _ (Array.getElem?_eq_some_iff.1 H4.out.2.1).1).trans H4.out.2.1) ((hB5.block _ (Array.getElem?_eq_some_iff.1 H4.out.2.2.1).1).trans H4.out.2.2.1))))
        clear hB5 r5 x1 x2
        have hlt1 := Hlt.out
        gi_wp2
        refine above_end H5'.out.1 H5'.out.2.1 H5'.out.2.2.1 H5'.out.2.2.2 (by omega) (by omega) (by omega) rfl
    · have q1 : decide ((early : Int) < (L.length : Int)) = false := by simp; omega
      obtain rfl : L.length = m := by rw [← hm, List.length_take]; omega
      have HMM := Lib.hid (And.intro (show (L.take L.length).length = L.length by simp) (by have := H.out.2.2.2.2.1; rw [hm, hmt] at this; exact this))
      clear hm
      have y1 := cell_regrown x1
      have y2 := cell_regrown x2
      have KE : ∀ d os, Calls Tryd.prog 25 #[.slice av L.length cv, .slice A0 L.length c0] (Go.Sort.grow (redrawn A d) os) fun e w'' => e = .returned (.bool true) ∧ ∃ p : Regrown, w'' = Go.Sort.grow (redrawn A p.d) p.os := fun d os => Calls.regrown_of (eq_m L av A0 L.length cv c0 _ HMM.out.1 (by omega) (by omega) (by omega) (by omega) (Kd.C_below HMM.out.2 (below_regrown A d os)) (Kd.C_below H.out.2.2.2.2.2 (below_regrown A d os)))
      refine HX.out _ _ ?_
      gi_wp2_with fail
      refine wpIn_wide.2 ?_
      refine wp_region_quiet_below (by kernel_rfl) (by kernel_rfl) ?_
      repeat (go_big_quiet_step (exact KE _ _))
      refine wpQuiet_nil ?_
      intro _ hw'
      obtain ⟨⟨dq, osq⟩, hw''⟩ := hw'
      subst hw''
      have HBq := Lib.hid (below_regrown A dq osq)
      have hvq := (HBq.out.block _ (Boxed.lt H.out.2.1)).trans H.out.2.1
      have hDq := (HBq.out.block _ (Array.getElem?_eq_some_iff.1 H.out.2.2.2.1).1).trans H.out.2.2.2.1
      have TQ := H.out.1.below HBq.out
      have HTQ := Lib.hid (And.intro TQ (And.intro hvq hDq))
      clear KE x0 x1 x2 y1 y2 q1 hDq TQ
      obtain ⟨A2, hA2⟩ : ∃ V, Go.Sort.grow (redrawn A dq) osq = V := ⟨_, rfl⟩
      rw [hA2] at HTQ hvq HBq
      have z1 := Boxed.cell hvq
      have z2 := Boxed.frozen hvq
      simp only [hA2]
      clear hA2 hvq
      gi_wp2_with fail
      obtain ⟨A3, hA3⟩ : ∃ V, A2.setCell ⟨w3.heap.size + 1 + 1, 0, none⟩ (.slice none 0 0) = V := ⟨_, rfl⟩
      have o3 : Only (fun k => k = w3.heap.size + 2) A2 A3 := hA3 ▸ (Only.refl (fun k => k = w3.heap.size + 2) A2).setCell (p := ⟨w3.heap.size + 1 + 1, 0, none⟩) (.inl rfl) _
      have b3 : Boxed A3 (w3.heap.size + 2) 31 (.slice none 0 0) := hA3 ▸ (show Boxed A2 (w3.heap.size + 2) 31 _ from HTQ.out.2.1).set (.slice none 0 0)
      have hz3 := o3.size
      have hzq := Array.getElem?_eq_some_iff.1 HTQ.out.2.2
      have T3 : TwI p w3 (w3.heap.size + 2) A3.heap.size vw [] A3 := ⟨Nat.le_refl _, o3.blk HTQ.out.1.want (by omega), o3.blk HTQ.out.1.fn (by omega), ⟨_, b3, World.ownsRow_nil _ _ _ _⟩, o3.from HTQ.out.1.b (fun k hk => by omega)⟩
      have D3 : A3.heap[w3.heap.size + 3]? = some (.deferred (some [])) := (o3.keep hzq.1 (by omega)).trans HTQ.out.2.2
      have hq3 : w3.heap.size + 3 < A3.heap.size := Nat.lt_of_lt_of_le hzq.1 hz3
      have HT3 := Lib.hid (And.intro T3 D3)
      simp only [hA3]
      clear hA3 o3 b3 hz3 hzq T3 D3 z1 z2
      rename_i K2 aK2
      have HX2 := Lib.hid aK2
      clear aK2
      refine range_z (F := Fence.wide) rfl (by decide) (gf := 40) (lb := #[.pointer (some ⟨w3.heap.size + 1, 0, none⟩)]) rfl trivial (enters_of Tryd.func40 (by kernel_rfl) rfl)
        (above_gives _ (by decide) (w3.heap.size + 1) p (by omega)) (fun W hB => ⟨(hB.block _ (by omega)).trans HT3.out.1.fn, tabs_from HT.out (below_step H3.out.2.2.1 (below_step HT3.out.1.b hB))⟩) (fun _ => rfl) (fun k hk => by omega) (fun k hk => hk.elim)
        (fun pre W => TwI p w3 (w3.heap.size + 2) A3.heap.size vw pre W ∧ W.heap[w3.heap.size + 3]? = some (.deferred (some [])))
        (fun c _ W => False) ?hI2 ?hIx2 ?hIz2 HT3.out ?ex2 ?done2 (fun c pre W _ h => h.elim)
      case hI2 =>
        rintro pre A C row h hg hr
        exact ⟨h.1.grown hg hr (by omega) (by omega), grown_kept hg (fun r e => (hr r e).1) h.2 (by omega)⟩
      case hIx2 =>
        rintro c pre A C row h hg hr
        exact h.elim
      case hIz2 =>
        rintro pre A C h ho
        have hB : Below A.heap.size A C := ⟨ho.os, ho.tape, ho.output, ho.size, fun k hk => ho.block k hk (fun h => h)⟩
        exact ⟨h.1.below hB, (hB.block _ (Array.getElem?_eq_some_iff.1 h.2).1).trans h.2⟩
      case ex2 =>
        apply Exists.intro
        refine ⟨?assign, ?body⟩
        case assign =>
          intro l' x W2 K hK
          simp only [encT]
          gi_wp2
          exact hK
        case body =>
          rintro l' pre x A4 ⟨hI, hD⟩ hlen ⟨rest, hnx⟩
          obtain ⟨v, hv, hrow⟩ := hI.coll
          have hpl : pre.length ≤ L.length := by rw [← HLL.out, hnx]; simp
          obtain ⟨av2, cv2, hve, hnc⟩ := own_sliceN hrow
          subst hve
          have hAs := hI.sz
          have x1 := hv.cell
          have x2 := hI.want.cell
          rw [← hvw, HLL.out] at x2
          have H4 := Lib.hid (And.intro hI (And.intro hv (And.intro hrow (And.intro hnx hD))))
          clear hv hrow hI hnx hD
          clear hlen
          have q1 : decide ((L.length : Int) < (pre.length : Int)) = false := by simp; omega
          have q2 : decide ((pre.length : Int) > (L.length : Int)) = false := by simp; omega
          have q3 : ((L.length : Int) < (pre.length : Int)) = False := by simp; omega
          gi_wp2_with (gi_at_builtin; refine wpListIn_append_own _ rfl _ _ 31 rfl A3.heap.size 9 i0 (.string ⟨#[]⟩) 1 16 Tryd.underlying31 HI.out.1 HI.out.2.1 HI.out.2.2.1 HI.out.2.2.2 rfl (by decide) _ _ _ rfl (H4.out.2.2.1.alloc _) ⟨A4.heap.size, 0, none⟩ 1 1 [.string x] rfl rfl (cell_one_new _ _ _) (by simp [Value.oneCell']) (by unfold maxLen; omega) (by omega) (by simp; omega) ?_; intro v' W1 hown' hgrow _; obtain ⟨g', cap', rfl⟩ := ownsRow_succ hown'; have hst := Coll.step H4.out.2.1 H4.out.2.2.1 (by omega) hAs hown' hgrow; have hc1 := hst.1.cell; have hf1 := hst.1.frozen; have HST := Lib.hid hst; clear hst hown' hgrow)
          refine ⟨HST.out.2.2.1.from _, HST.out.2.2.2.mono (fun k _ hk => by omega), ⟨Nat.le_trans hAs HST.out.2.2.2.size, HST.out.2.2.2.blk H4.out.1.want (by omega), HST.out.2.2.2.blk H4.out.1.fn (by omega), HST.out.2.1, HST.out.2.2.2.from H4.out.1.b (fun k hk => by omega)⟩, ?_⟩
          exact (HST.out.2.2.2.keep (Array.getElem?_eq_some_iff.1 H4.out.2.2.2.2).1 (by omega)).trans H4.out.2.2.2.2
      case done2 =>
        rintro xs A4 hxs ⟨hI, hD0⟩ hD1
        rw [HLL.out] at hxs
        subst hxs
        obtain ⟨v, hv, hrow⟩ := hI.coll
        obtain ⟨av2, cv2, rfl, hcv2, hC2⟩ := own_texts hrow (by omega)
        have x1 := hv.cell
        have x2 := hI.want.cell
        rw [← hvw, HLL.out] at x2
        have hC3' := Kd.C_below H3.out.2.2.2 hI.b
        rw [HLL.out] at hC3'
        have H4 := Lib.hid (And.intro hI (And.intro hD0 (And.intro hD1 (And.intro hC2 hC3'))))
        clear hv hrow hI hD0 hD1 hC2 hC3'
        refine HX2.out _ _ ?_
        gi_wp2_with fail
        refine ⟨trivial, (callsIn_wide.2 (eq_self xs av2 A0 cv2 c0 A4 (by omega) hcv2 hdL H4.out.2.2.2.1 H4.out.2.2.2.2)).mono ?_⟩
        rintro e A5 ⟨rfl, hB5⟩
        have r5 := Hr.out A5 (below_step H4.out.1.b hB5)
        have r6 := Boxed.frozen r5
        have r7 := Boxed.cell r5
        have H5' := Lib.hid (And.intro r5 (And.intro (below_step (below_step H3.out.2.2.1 H4.out.1.b) hB5) (And.intro ((hB5.block _ (Array.getElem?_eq_some_iff.1 H4.out.2.1).1).trans H4.out.2.1) ((hB5.block _ (Array.getElem?_eq_some_iff.1 H4.out.2.2.1).1).trans H4.out.2.2.1))))
        clear hB5 r5 x1 x2
        have hlt1 := Hlt.out
        gi_wp2
        refine above_end H5'.out.1 H5'.out.2.1 H5'.out.2.2.1 H5'.out.2.2.2 (by omega) (by omega) (by omega) rfl
set_option maxHeartbeats 4000000 in
theorem pathAbove_calls (p : ByteArray) (early : Int) (w : World) (he : early ≤ 9223372036854775807) (hT : Tabs w) : Calls Tryd.prog 7 #[.string p, .int .i64 early] w fun e w' => e = .returned (.bool true) ∧ Below w.heap.size w w' := by
  by_cases h1 : (p.size : Int) ≥ 2147483632
  · have K1 := Lib.hid (fun w => long_is p w true (decide_eq_true h1))
    have b1 : Boxed ((w.alloc (.cells #[.int .i64 early] 3)).alloc (.cells #[.bool false] 4)) (w.heap.size + 1) 4 (.bool false) := by
      have := Boxed.new (w.alloc (.cells #[.int .i64 early] 3)) 4 (.bool false)
      rw [World.size_alloc] at this; exact this
    have HB := Lib.hid (And.intro b1 (below_alloc (below_alloc (Below.refl _ w) (.cells #[.int .i64 early] 3)) (.cells #[.bool false] 4)))
    clear b1 hT
    go_enter Tryd.func7, Tryd.ntmps7
    go_wp2_with fail
    refine (K1.out _).mono ?_
    rintro e w1 ⟨rfl, hB⟩
    have r5 := (hB.block _ (Boxed.lt HB.out.1)).trans HB.out.1
    have r6 := Boxed.frozen r5
    have r7 := Boxed.cell r5
    have H := Lib.hid (And.intro r5 (below_step HB.out.2 hB))
    clear hB r5
    go_wp2
    exact bodyPost_ret (results_cells1 rfl _ _ _ rfl (agg4 _) (Boxed.cell ((show Boxed w1 (w.heap.size + 1) 4 _ from H.out.1).set (.bool true)))) rfl ⟨rfl, ((Only.refl (fun k => k = w.heap.size + 1) w1).setCell (p := ⟨w.heap.size + 1, 0, none⟩) (.inl rfl) _).from H.out.2 (fun k hk => by omega)⟩
  by_cases h2 : early < 0
  · have K1 := Lib.hid (fun w => long_is p w false (decide_eq_false h1))
    have b1 : Boxed ((w.alloc (.cells #[.int .i64 early] 3)).alloc (.cells #[.bool false] 4)) (w.heap.size + 1) 4 (.bool false) := by
      have := Boxed.new (w.alloc (.cells #[.int .i64 early] 3)) 4 (.bool false)
      rw [World.size_alloc] at this; exact this
    have b0 : Boxed ((w.alloc (.cells #[.int .i64 early] 3)).alloc (.cells #[.bool false] 4)) w.heap.size 3 (.int .i64 early) := (Boxed.new w 3 _).alloc _
    have HB := Lib.hid (And.intro b1 (And.intro b0 (below_alloc (below_alloc (Below.refl _ w) (.cells #[.int .i64 early] 3)) (.cells #[.bool false] 4))))
    clear b1 b0 hT
    go_enter Tryd.func7, Tryd.ntmps7
    go_wp2_with fail
    refine (K1.out _).mono ?_
    rintro e w1 ⟨rfl, hB⟩
    have r5 := (hB.block _ (Boxed.lt HB.out.1)).trans HB.out.1
    have r6 := Boxed.frozen r5
    have r7 := Boxed.cell r5
    have r8 := Boxed.cell ((hB.block _ (Boxed.lt HB.out.2.1)).trans HB.out.2.1)
    have H := Lib.hid (And.intro r5 (below_step HB.out.2.2 hB))
    clear hB r5
    go_wp2
    exact bodyPost_ret (results_cells1 rfl _ _ _ rfl (agg4 _) (Boxed.cell ((show Boxed w1 (w.heap.size + 1) 4 _ from H.out.1).set (.bool true)))) rfl ⟨rfl, ((Only.refl (fun k => k = w.heap.size + 1) w1).setCell (p := ⟨w.heap.size + 1, 0, none⟩) (.inl rfl) _).from H.out.2 (fun k hk => by omega)⟩
  obtain ⟨m, rfl⟩ : ∃ m : Nat, early = m := ⟨early.toNat, by omega⟩
  exact above_main p m w (by omega) (by omega) hT
end Go.Proofs.YtcilfjmiiodfgaaDoor.Q
