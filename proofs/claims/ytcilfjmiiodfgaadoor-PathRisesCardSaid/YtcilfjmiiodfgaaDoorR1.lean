import Derived.Test.YtcilfjmiiodfgaaDoorO
import Derived.Maps.AppendAt
namespace Go.Proofs.YtcilfjmiiodfgaaDoor.Q
open Go.RowKit Go.Shelf Go.Proofs.YtcilfjmiiodfgaaDoorW.PrintWords Go.Proofs.YtcilfjmiiodfgaaDoor.Pr
set_option linter.unusedVariables false
set_option linter.unusedSimpArgs false
theorem func_eqIn36 (d : Nat) (fn : Fn) (a b : Array Value) (W : World) : (Op.equalIn (d + 1) 36 (.func fn a b) .nilFunc).run Tryd.prog W = .ok false W := by
  simp [Op.equalIn, run_underlying Tryd.underlying36]
theorem func_equal36 (fn : Fn) (a b : Array Value) (W : World) : (Op.equal 36 (.func fn a b) .nilFunc).run Tryd.prog W = .ok false W := func_eqIn36 9999 fn a b W
theorem func_eql36 (fn : Fn) (a b : Array Value) (W : World) : (binOp .eql 36 (.func fn a b) .nilFunc).run Tryd.prog W = .ok (.bool false) W := by
  simp only [binOp]
  simp [func_equal36]
attribute [local go_sem] Oper.semAt_some func_eql36

/-! TEXTS COLLECTED -/
theorem own_blkN {W : World} {base e size n : Nat} {v : Value} {xs : List Value} (h : W.ownsRow base e size v n xs) {g : Nat} (hg : v.ownBlock = some g) : base ≤ g ∧ ∃ c, W.heap[g]? = some (.cells c e (0, 0)) := by
  rcases h.2 with ⟨rfl, _⟩ | ⟨k, cap, cur, rfl, hb, hh, _⟩
  · simp [Value.ownBlock] at hg
  · have : k = g := by simpa [Value.ownBlock] using hg
    subst this; exact ⟨hb, cur, hh⟩
theorem app_keep {A W1 : World} {b e k : Nat} {v : Value} {xs : List Value} {tmp : Obj} (hrow : A.ownsRow b e 1 v k xs) (hsz : b ≤ A.heap.size) (hgrow : (A.alloc tmp).grownBy W1 v.ownBlock) : KeepsOthers A W1 ∧ Only (fun j => b ≤ j) A W1 := by
  refine ⟨(KeepsOthers.alloc A tmp).trans (KeepsOthers.of_grownBy hgrow fun j o ej hj => ?_), ?_⟩
  · obtain ⟨_, c, hc⟩ := own_blkN hrow ej
    rw [heap_alloc_old _ _ (Array.getElem?_eq_some_iff.1 hc).1, hc] at hj
    cases hj; rfl
  · exact (Only.of_below (S := fun j => b ≤ j) (below_alloc (Below.refl _ A) tmp)).trans (T := fun j => b ≤ j) ⟨hgrow.os, hgrow.tape, hgrow.output, hgrow.size, fun k hk hn => hgrow.block k hk (fun e' => hn (own_blkN hrow e'.symm).1)⟩ (fun _ _ h => h)
theorem own_onlyN {W W' : World} {base e size n : Nat} {v : Value} {xs : List Value} {S : Nat → Prop} (h : W.ownsRow base e size v n xs) (ho : Only S W W') (hS : ∀ k, base ≤ k → ¬ S k) : W'.ownsRow base e size v n xs :=
  ⟨h.1, h.2.imp id fun ⟨g, cap, cur, hv, hb, hg, r⟩ => ⟨g, cap, cur, hv, hb, (ho.keep (Array.getElem?_eq_some_iff.1 hg).1 (hS g hb)).trans hg, r⟩⟩
theorem own_keptN {W W' : World} {base e size n : Nat} {v : Value} {xs : List Value} {row : Option Nat} (h : W.ownsRow base e size v n xs) (hg : W.grownBy W' row) (hr : ∀ r, row = some r → ∃ o : Obj, W.heap[r]? = some o ∧ o.isCells = false) : W'.ownsRow base e size v n xs := by
  refine h.kept hg ?_
  rcases h.2 with ⟨rfl, _⟩ | ⟨g, cap, cur, rfl, _, hgb, _⟩
  · exact .inl rfl
  · refine .inr fun e' => ?_
    obtain ⟨o, ho, hc⟩ := hr g (by simpa [Value.ownBlock] using e'.symm)
    rw [hgb] at ho; cases ho; cases hc
theorem own_baseN {W : World} {base b e size n : Nat} {v : Value} {xs : List Value} (h : W.ownsRow base e size v n xs) (hb : b ≤ base) : W.ownsRow b e size v n xs :=
  ⟨h.1, h.2.imp id fun ⟨g, cap, cur, hv, hb', r⟩ => ⟨g, cap, cur, hv, Nat.le_trans hb hb', r⟩⟩
theorem own_sliceN {W : World} {base e size n : Nat} {v : Value} {xs : List Value} (h : W.ownsRow base e size v n xs) : ∃ a c, v = .slice a n c ∧ n ≤ c := by
  rcases h.2 with ⟨rfl, rfl⟩ | ⟨g, cap, cur, rfl, _, _, h, _⟩
  · exact ⟨_, _, rfl, Nat.le_refl _⟩
  · exact ⟨_, _, rfl, h⟩
def texts (l : List ByteArray) : List Value := l.map Value.string
/-- a list of texts in a box -/
def Coll (B n0 : Nat) (l : List ByteArray) (W : World) : Prop := ∃ v, Boxed W B 31 v ∧ W.ownsRow n0 9 1 v l.length (texts l)
theorem Coll.grown {B n0 : Nat} {l : List ByteArray} {W W' : World} {row : Option Nat} {m : Nat} (h : Coll B n0 l W) (hg : W.grownBy W' row) (hr : ∀ r, row = some r → m ≤ r ∧ ∃ o : Obj, W.heap[r]? = some o ∧ o.isCells = false) (hB : B < m) : Coll B n0 l W' := by
  obtain ⟨v, h1, h2⟩ := h
  exact ⟨v, grown_kept hg (fun r e => (hr r e).1) h1 hB, own_keptN h2 hg (fun r e => (hr r e).2)⟩
theorem Coll.below {B n0 : Nat} {l : List ByteArray} {W W' : World} (h : Coll B n0 l W) (hB : Below W.heap.size W W') : Coll B n0 l W' := by
  obtain ⟨v, h1, h2⟩ := h
  exact ⟨v, (hB.block _ (Array.getElem?_eq_some_iff.1 (show W.heap[B]? = _ from h1)).1).trans h1, own_onlyN h2 (Only.of_below (S := fun _ => False) hB) (fun _ _ h => h)⟩
theorem Coll.step {B n0 : Nat} {l : List ByteArray} {x : ByteArray} {W W1 : World} {v v' : Value} {tmp : Obj} (h1 : Boxed W B 31 v) (h2 : W.ownsRow n0 9 1 v l.length (texts l)) (hB : B < n0) (hn : n0 ≤ W.heap.size)
    (hown : W1.ownsRow n0 9 1 v' (l.length + 1) (texts l ++ [.string x])) (hgrow : (W.alloc tmp).grownBy W1 v.ownBlock) :
    Boxed W1 B 31 v ∧ Coll B n0 (l ++ [x]) (W1.setCell ⟨B, 0, none⟩ v') ∧ KeepsOthers W (W1.setCell ⟨B, 0, none⟩ v') ∧ Only (fun k => k = B ∨ n0 ≤ k) W (W1.setCell ⟨B, 0, none⟩ v') := by
  obtain ⟨k1, k2⟩ := app_keep h2 hn hgrow
  have hb1 : Boxed W1 B 31 v := k2.blk h1 (by omega)
  refine ⟨hb1, ⟨v', hb1.set v', ?_⟩, k1.trans (KeepsOthers.setCell _ _ _), (k2.mono (fun k _ h => .inr h)).setCell (p := ⟨B, 0, none⟩) (.inl (.inl rfl)) _⟩
  have := ownsRow_setCell_below hown (a := ⟨B, 0, none⟩) hB v'
  simpa [texts] using this
/-- for EqTexts -/
theorem own_texts {W : World} {base : Nat} {v : Value} {l : List ByteArray} (h : W.ownsRow base 9 1 v l.length (texts l)) (hl : l.length ≤ 4294967296) : ∃ A c, v = .slice A l.length c ∧ l.length ≤ c ∧ Kd.C Kd.string W A l.length l := by
  rcases h.2 with ⟨rfl, h0⟩ | ⟨g, cap, cur, rfl, hb, hg, hc, hm, hs, ht⟩
  · have : l = [] := List.eq_nil_of_length_eq_zero h0
    subst this
    exact ⟨none, 0, rfl, Nat.le_refl _, rfl, by simp, fun h => by simp at h⟩
  · refine ⟨_, cap, rfl, hc, rfl, by omega, fun hp => ⟨⟨g, 0, none⟩, rfl, fun j p hj => ⟨[.string p], rfl, rfl, fun i u hu => ?_⟩⟩⟩
    have hjl : j < l.length := (List.getElem?_eq_some_iff.1 hj).1
    match i, hu with
    | 0, hu =>
      have hu2 : Value.string p = u := by simpa using hu
      subst hu2
      show W.cell? ((⟨g, 0, none⟩ : Addr).add (j * 1 + 0)) = some (Value.string p)
      rw [Nat.mul_one, Nat.add_zero, Addr.add_mid, Nat.zero_add, World.ownsRow.cellAt h j (by omega)]
      simp [texts, hj]
theorem take_app {α : Type} {l pre rest : List α} (h : l = pre ++ rest) {m : Nat} (hm : pre.length = m) : l.take m = pre := by
  subst hm; rw [h]; simp
structure AbI (p : ByteArray) (w : World) (most n0 : Nat) (pre : List ByteArray) (W : World) : Prop where
  le : pre.length ≤ most
  sz : w.heap.size + 3 ≤ W.heap.size
  box : Boxed W w.heap.size 3 (.int .i64 most)
  coll : Coll (w.heap.size + 1) n0 pre W
  b : Below w.heap.size w W
def AbX (p : ByteArray) (w : World) (most n0 : Nat) (c : Code) (W : World) : Prop := c = .exit 0 ∧ ∃ pre rest, aboveP p = pre ++ rest ∧ pre.length = most ∧ AbI p w most n0 pre W
theorem AbI.grown {p : ByteArray} {w W W' : World} {most n0 m : Nat} {pre : List ByteArray} {row : Option Nat} (h : AbI p w most n0 pre W) (hg : W.grownBy W' row) (hr : ∀ r, row = some r → m ≤ r ∧ ∃ o : Obj, W.heap[r]? = some o ∧ o.isCells = false) (hB : w.heap.size + 2 ≤ m) : AbI p w most n0 pre W' :=
  ⟨h.le, Nat.le_trans h.sz hg.size, grown_kept hg (fun r e => (hr r e).1) h.box (by omega), h.coll.grown hg hr (by omega), below_of_grown h.b hg (fun k e => by have := (hr k e).1; omega)⟩
def CollPost (p : ByteArray) (most : Nat) (w : World) (e : Ending) (w' : World) : Prop := ∃ v, e = .returned v ∧ w'.ownsRow w.heap.size 9 1 v ((aboveP p).take most).length (texts ((aboveP p).take most)) ∧ Below w.heap.size w w'
theorem ab_end {p : ByteArray} {w W : World} {most n0 n D : Nat} {tmps : Array Value} {pre : List ByteArray} {v : Value} (hb : Below w.heap.size w W) (h2 : W.ownsRow n0 9 1 v pre.length (texts pre)) (hn0 : w.heap.size ≤ n0) (he : (aboveP p).take most = pre) (hD : W.heap[D]? = some (.deferred (some []))) (hDw : w.heap.size ≤ D) (h4 : tmps.getD 4 undef = v) :
    LeavesInM Fence.wide n Tryd.prog Tryd.f22 tmps (CollPost p most w) [{ target := .collected D, args := #[] }] .returning W := by
  refine ⟨by simp, .inl ⟨_, _, rfl, run_takeDeferred hD, ?_⟩⟩
  refine ⟨_, results_tmp rfl _ _ _, v, ?_, ?_, ?_⟩
  · rw [h4]
  · rw [he]; exact own_baseN (ownsRow_putObj h2 _ hD rfl) hn0
  · exact hb.trans (belowK_b (w := w) (Nat.le_refl _) W D _ _ hDw hD rfl rfl)
set_option maxHeartbeats 8000000 in
set_option maxRecDepth 100000 in
theorem collect_calls (p : ByteArray) (most : Nat) (w : World) (hs : p.size ≤ 2147483648) (hT : Tabs w) : Calls Tryd.prog 22 #[.string p, .int .i64 most] w (CollPost p most w) := by
  have HT := Lib.hid hT
  obtain ⟨i0, hi, hz0, hz1, hz2⟩ := info_parts info9
  have HI := Lib.hid (And.intro hi (And.intro hz0 (And.intro hz1 hz2)))
  have hal := above_len p
  have HL := Lib.hid hal
  clear hT hi hz0 hz1 hz2 hal
  refine (callsIn_wide (n := 5)).1 ?_
  refine callsIn_of_wp_marks Tryd.func22 rfl trivial ?_ rfl
  simp only [Tryd.ntmps22, List.size_toArray, List.length_cons, List.length_nil, Nat.reduceAdd, Nat.reduceSub, Array.replicate_succ, Array.replicate_zero, List.push_toArray, List.append_toArray, List.nil_append, List.cons_append]
  gi_wp2_with fail
  refine ⟨trivial, (callsIn_wide.2 (above_call p _)).mono ?_⟩
  rintro e w3 ⟨rfl, rfl⟩
  have b0 : Boxed ((w.alloc (.cells #[.int .i64 most] 3)).alloc (.cells #[.slice none 0 0] 31)) w.heap.size 3 (.int .i64 most) := (Boxed.new w 3 _).alloc _
  have b1 := Boxed.new (w.alloc (.cells #[.int .i64 most] 3)) 31 (.slice none 0 0)
  have b2 := Boxed.new ((w.alloc (.cells #[.int .i64 most] 3)).alloc (.cells #[.slice none 0 0] 31)) 9 (.string p)
  have bw : Below w.heap.size w ((w.alloc (.cells #[.int .i64 most] 3)).alloc (.cells #[.slice none 0 0] 31)) := below_alloc (below_alloc (Below.refl _ w) _) _
  have hsz : (((w.alloc (.cells #[.int .i64 most] 3)).alloc (.cells #[.slice none 0 0] 31)).alloc (.cells #[.string p] 9)).heap.size = w.heap.size + 3 := by simp
  have b0' := b0.alloc (.cells #[.string p] 9)
  have b1' := b1.alloc (.cells #[.string p] 9)
  have bw' := below_step bw (below_alloc (Below.refl _ _) (.cells #[.string p] 9))
  rw [World.size_alloc] at b1'
  rw [World.size_alloc, World.size_alloc] at b2
  rw [World.size_alloc, World.size_alloc]
  obtain ⟨w4, hw4⟩ : ∃ V, (((w.alloc (.cells #[.int .i64 most] 3)).alloc (.cells #[.slice none 0 0] 31)).alloc (.cells #[.string p] 9)) = V := ⟨_, rfl⟩
  rw [hw4] at b0' b1' b2 bw' hsz
  rw [hw4]
  have H4 := Lib.hid (And.intro b0' (And.intro b1' (And.intro b2 bw')))
  clear b0 b1 b2 bw b0' b1' bw' hw4
  gi_wp2_with fail
  rename_i KK aK
  have HX := Lib.hid aK
  clear aK
  refine range_z (F := Fence.wide) rfl (by decide) (gf := 40) (lb := #[.pointer (some ⟨w.heap.size + 1 + 1, 0, none⟩)]) rfl trivial (enters_of Tryd.func40 (by kernel_rfl) rfl)
    (above_gives _ (by decide) (w.heap.size + 1 + 1) p hs) (fun W hB => ⟨(hB.block _ (by omega)).trans H4.out.2.2.1, tabs_from HT.out (below_step H4.out.2.2.2 hB)⟩) (fun _ => rfl) (fun k hk => by omega) (fun k hk => hk.elim)
    (AbI p w most (w.heap.size + 3)) (fun c _ W => AbX p w most (w.heap.size + 3) c W) ?hI ?hIx ?hIz ⟨by simp, by omega, H4.out.1, ⟨_, H4.out.2.1, World.ownsRow_nil _ _ _ _⟩, H4.out.2.2.2⟩ ?ex ?done ?stop
  case hI =>
    rintro pre A C row h hg hr
    exact h.grown hg hr (by omega)
  case hIx =>
    rintro c pre A C row ⟨h1, pr, rest, h2, h3, h⟩ hg hr
    exact ⟨h1, pr, rest, h2, h3, h.grown hg hr (by omega)⟩
  case hIz =>
    rintro pre A C h ho
    have hB : Below A.heap.size A C := ⟨ho.os, ho.tape, ho.output, ho.size, fun k hk => ho.block k hk (fun h => h)⟩
    exact ⟨h.le, Nat.le_trans h.sz ho.size, ho.blk h.box (fun h => h), h.coll.below hB, below_step h.b hB⟩
  case ex =>
    apply Exists.intro
    refine ⟨?assign, ?body⟩
    case assign =>
      intro l' x W2 K hK
      simp only [encT]
      gi_wp2
      exact hK
    case body =>
      rintro l' pre x A ⟨hle, hAs, hbox, ⟨v, hv, hrow⟩, hB⟩ hlen ⟨rest, hnx⟩
      have hpl : pre.length ≤ 64 := by have := HL.out; rw [hnx] at this; simp at this; omega
      obtain ⟨av, cv, hve, hnc⟩ := own_sliceN hrow
      subst hve
      have x0 := hbox.cell
      have x1 := hv.cell
      have H := Lib.hid (And.intro hbox (And.intro hv (And.intro hrow (And.intro hB hnx))))
      clear hbox hv hrow hB hnx
      by_cases hge : most ≤ pre.length
      · have q1 : decide ((most : Int) ≤ (pre.length : Int)) = true := by simp; omega
        gi_wp2
        exact ⟨KeepsFrom.refl _ _, rfl, pre, x :: rest, H.out.2.2.2.2, by omega, by omega, hAs, H.out.1, ⟨_, H.out.2.1, H.out.2.2.1⟩, H.out.2.2.2.1⟩
      · have q1 : decide ((most : Int) ≤ (pre.length : Int)) = false := by simp; omega
        gi_wp2_with (gi_at_builtin; refine wpListIn_append_own _ rfl _ _ 31 rfl (w.heap.size + 3) 9 i0 (.string ⟨#[]⟩) 1 16 Tryd.underlying31 HI.out.1 HI.out.2.1 HI.out.2.2.1 HI.out.2.2.2 rfl (by decide) _ _ _ rfl (H.out.2.2.1.alloc _) ⟨A.heap.size, 0, none⟩ 1 1 [.string x] rfl rfl (cell_one_new _ _ _) (by simp [Value.oneCell']) (by unfold maxLen; omega) (by omega) (by simp; omega) ?_; intro v' W1 hown' hgrow _; obtain ⟨g', cap', rfl⟩ := ownsRow_succ hown'; have hst := Coll.step H.out.2.1 H.out.2.2.1 (by omega) hAs hown' hgrow; have hc1 := hst.1.cell; have hf1 := hst.1.frozen; have HST := Lib.hid hst; clear hst hown' hgrow)
        refine ⟨HST.out.2.2.1.from _, HST.out.2.2.2.mono (fun k _ hk => by omega), by simp; omega, Nat.le_trans hAs HST.out.2.2.2.size, ?_, HST.out.2.1, HST.out.2.2.2.from H.out.2.2.2.1 (fun k hk => by omega)⟩
        exact HST.out.2.2.2.blk H.out.1 (by omega)
  case done =>
    rintro xs A rfl ⟨hle, hsA, hbox, ⟨v, hv, hrow⟩, hB⟩ hD
    obtain ⟨av, cv, hve, hnc⟩ := own_sliceN hrow
    subst hve
    have x1 := hv.cell
    have H := Lib.hid (And.intro hrow (And.intro hB (And.intro hle hD)))
    clear hbox hv hrow hB hle hD
    refine HX.out _ _ ?_
    gi_wp2
    exact ab_end H.out.2.1 H.out.1 (by omega) (List.take_of_length_le H.out.2.2.1) (by first | exact H.out.2.2.2 | (rw [← hsz]; exact H.out.2.2.2)) (by omega) rfl
  case stop =>
    rintro c pre' A _ ⟨rfl, pre, rest, h1, h2, ⟨hle, hsA, hbox, ⟨v, hv, hrow⟩, hB⟩⟩ hD
    obtain ⟨av, cv, hve, hnc⟩ := own_sliceN hrow
    subst hve
    have x1 := hv.cell
    have H := Lib.hid (And.intro hrow (And.intro hB (And.intro (take_app h1 h2) hD)))
    clear hbox hv hrow hB hle hD h1 h2
    gi_wp2
    refine HX.out _ _ ?_
    gi_wp2
    exact ab_end H.out.2.1 H.out.1 (by omega) H.out.2.2.1 (by first | exact H.out.2.2.2 | (rw [← hsz]; exact H.out.2.2.2)) (by omega) rfl
end Go.Proofs.YtcilfjmiiodfgaaDoor.Q
