import Derived.Test.YtbcijdgpaglbnaaN
namespace Go.Proofs.Ytbcijdgpaglbnaa.Q
open Go.RowKit Go.Proofs.YtbcijdgpaglbnaaW.PrintWords Go.Deep Go.Sort
set_option linter.unusedVariables false
set_option linter.unusedSimpArgs false

/-! JOINED -/
def okB (L : List Nat) : Bool := decide (1 ≤ L.length ∧ L.length ≤ 1048576)
/-- which of the first k bodies are one -/
def kept (Ls : List (List Nat)) : Nat → List Nat
  | 0 => []
  | k + 1 => if okB (Ls.getD k []) then kept Ls k ++ [k] else kept Ls k
def bodiesTo (Ls : List (List Nat)) (k : Nat) : List (List Nat) := (kept Ls k).map (fun i => Ls.getD i [])
def joinL (Ms : List (List Nat)) : List Nat := Ms.flatMap frameB
def joinTo (Ls : List (List Nat)) (k : Nat) : List Nat := joinL (bodiesTo Ls k)
/-- where each begins -/
def startsTo (Ls : List (List Nat)) : Nat → List Nat
  | 0 => []
  | k + 1 => if okB (Ls.getD k []) then startsTo Ls k ++ [(joinTo Ls k).length] else startsTo Ls k
theorem joinTo_yes {Ls : List (List Nat)} {k : Nat} (h : okB (Ls.getD k []) = true) : joinTo Ls (k + 1) = joinTo Ls k ++ frameB (Ls.getD k []) := by
  unfold joinTo bodiesTo
  rw [kept, if_pos h]
  simp [joinL]
theorem joinTo_no {Ls : List (List Nat)} {k : Nat} (h : okB (Ls.getD k []) = false) : joinTo Ls (k + 1) = joinTo Ls k := by
  unfold joinTo bodiesTo
  rw [kept, h]
  simp
theorem kept_le (Ls : List (List Nat)) (k : Nat) : (kept Ls k).length ≤ k := by
  induction k with
  | zero => simp [kept]
  | succ k ih =>
    rw [kept]
    split
    · simp; omega
    · omega
theorem starts_length (Ls : List (List Nat)) (k : Nat) : (startsTo Ls k).length = (kept Ls k).length := by
  induction k with
  | zero => rfl
  | succ k ih => rw [kept, startsTo]; split <;> simp [ih]
theorem joinTo_le (Ls : List (List Nat)) (k : Nat) : (joinTo Ls k).length ≤ total Ls k := by
  induction k with
  | zero => simp [joinTo, bodiesTo, kept, joinL]
  | succ k ih =>
    cases h : okB (Ls.getD k []) with
    | true => rw [joinTo_yes h, List.length_append, frame_length, total]; omega
    | false => rw [joinTo_no h, total]; omega
theorem total_mono (Ls : List (List Nat)) {j k : Nat} (h : j ≤ k) : total Ls j + 10 * (k - j) ≤ total Ls k := by
  induction k with
  | zero => obtain rfl : j = 0 := by omega
            simp
  | succ k ih =>
    by_cases e : j = k + 1
    · subst e; simp
    · have := ih (by omega)
      rw [total]; omega
def intsV (zs : List Nat) : List Value := zs.map (fun x : Nat => Value.int .i64 (x : Int))
/-- the list of the bodies that are one, as they lie -/
def rowOf (Ls : List (List Nat)) (f : Nat → Option Addr × Nat) (is : List Nat) : List Value := is.map (fun i => .slice (f i).1 (Ls.getD i []).length (f i).2)
/-- three lists that grow -/
structure Three (w W : World) (va : Value) (X : List Nat) (vl : Value) (ys : List Value) (vp : Value) (zs : List Nat) : Prop where
  a : W.ownsRow w.heap.size 5 1 va X.length (bytesV X)
  l : W.ownsRow w.heap.size 25 1 vl ys.length ys
  p : W.ownsRow w.heap.size 3 1 vp zs.length (intsV zs)
  b : Below w.heap.size w W
theorem own_then {W W' : World} {base e size n : Nat} {v : Value} {xs : List Value} (h : W.ownsRow base e size v n xs) (hB : Below W.heap.size W W') : W'.ownsRow base e size v n xs :=
  own_only h (Only.of_below (S := fun _ => False) hB) (fun _ _ h => h)
theorem Three.below {w W W' : World} {va : Value} {X : List Nat} {vl : Value} {ys : List Value} {vp : Value} {zs : List Nat} (h : Three w W va X vl ys vp zs) (hB : Below W.heap.size W W') : Three w W' va X vl ys vp zs :=
  ⟨own_then h.a hB, own_then h.l hB, own_then h.p hB, below_then h.b h.b.size hB⟩
theorem Three.stayP {w W W' : World} {va : Value} {X : List Nat} {vl : Value} {ys : List Value} {vp vp' : Value} {zs zs' : List Nat} (h : Three w W va X vl ys vp zs) (st : Stays 3 w.heap.size W W') (hp : W'.ownsRow w.heap.size 3 1 vp' zs'.length (intsV zs')) : Three w W' va X vl ys vp' zs' :=
  ⟨st.row h.a (by decide), st.row h.l (by decide), hp, st.only.from h.b (fun _ h => h)⟩
theorem Three.stayL {w W W' : World} {va : Value} {X : List Nat} {vl vl' : Value} {ys ys' : List Value} {vp : Value} {zs : List Nat} (h : Three w W va X vl ys vp zs) (st : Stays 25 w.heap.size W W') (hl : W'.ownsRow w.heap.size 25 1 vl' ys'.length ys') : Three w W' va X vl' ys' vp zs :=
  ⟨st.row h.a (by decide), hl, st.row h.p (by decide), st.only.from h.b (fun _ h => h)⟩
theorem Three.stayA {w W W' : World} {va va' : Value} {X X' : List Nat} {vl : Value} {ys : List Value} {vp : Value} {zs : List Nat} (h : Three w W va X vl ys vp zs) (st : Stays 5 w.heap.size W W') (ha : W'.ownsRow w.heap.size 5 1 va' X'.length (bytesV X')) : Three w W' va' X' vl ys vp zs :=
  ⟨ha, st.row h.l (by decide), st.row h.p (by decide), st.only.from h.b (fun _ h => h)⟩
theorem own_form {W : World} {base e n : Nat} {v : Value} {xs : List Value} (h : W.ownsRow base e 1 v n xs) : ∃ a c, v = .slice a n c := by
  rcases h.2 with ⟨rfl, rfl⟩ | ⟨g, cap, cur, rfl, _⟩
  · exact ⟨_, _, rfl⟩
  · exact ⟨_, _, rfl⟩
theorem results_tmp4 {fn : Func} {t u v x : Tmp} (h : fn.results = #[.tmp t, .tmp u, .tmp v, .tmp x]) (tmps : Array Value) (P : Program) (w : World) :
    (results fn tmps).run P w = .ok (.tuple #[tmps.getD t undef, tmps.getD u undef, tmps.getD v undef, tmps.getD x undef]) w := by
  simp [results, h]
def JoinedPost (w : World) (Ls : List (List Nat)) (f : Nat → Option Addr × Nat) (e : Ending) (w' : World) : Prop :=
  ∃ va vl vp, e = .returned (.tuple #[va, vl, vp, .bool true]) ∧ Three w w' va (joinTo Ls Ls.length) vl (rowOf Ls f (kept Ls Ls.length)) vp (startsTo Ls Ls.length)
theorem RdB.grown {W W' : World} {row : Option Nat} {g : Nat} {L : List Nat} (h : RdB W (some ⟨g, 0, none⟩) L) (hg : W.grownBy W' row) (hn : row ≠ some g) : RdB W' (some ⟨g, 0, none⟩) L :=
  ⟨h.1, fun hp => by
    obtain ⟨b, o, e, hc⟩ := h.2 hp
    have e2 : (⟨g, 0, none⟩ : Addr) = ⟨b, o, none⟩ := Option.some.inj e
    injection e2 with e3 e4
    subst e3 e4
    exact ⟨g, 0, rfl, fun i hi => (World.cell?_of_block (w := W) (hg.block g (World.block_lt_of_cell? W _ (hc i hi)) (fun e => hn e.symm))).trans (hc i hi)⟩⟩
theorem take_one (L : List Nat) (j : Nat) (h : j < L.length) : L.take (j + 1) = L.take j ++ [L.getD j 0] := by
  rw [List.take_add_one]
  simp [List.getD_eq_getElem?_getD, h]
theorem below_alloc1 (W : World) (o : Obj) : Below W.heap.size W (W.alloc o) := below_alloc (Below.refl _ W) o
set_option maxRecDepth 100000 in
set_option maxHeartbeats 8000000 in
theorem joined_calls (A : Option Addr) (c : Nat) (Ls : List (List Nat)) (f : Nat → Option Addr × Nat) (w : World) (hr : RdBs w A Ls f) (hb : ∀ i, Bytes (Ls.getD i [])) (ht : total Ls Ls.length ≤ 1073741823) :
    Calls Try.prog 8 #[.slice A Ls.length c] w (JoinedPost w Ls f) := by
  have hl := hr.1
  have HR := Lib.hid hr
  have HB := Lib.hid hb
  obtain ⟨i3, hi3, hz30, hz31, hz32⟩ := info_parts infoI
  obtain ⟨i4, hi4, hz40, hz41, hz42⟩ := info_parts infoS
  obtain ⟨i5, hi5, hz50, hz51, hz52⟩ := info_parts infoB
  have HI3 := Lib.hid (And.intro hi3 (And.intro hz30 (And.intro hz31 hz32)))
  have HI4 := Lib.hid (And.intro hi4 (And.intro hz40 (And.intro hz41 hz42)))
  have HI5 := Lib.hid (And.intro hi5 (And.intro hz50 (And.intro hz51 hz52)))
  clear hr hb hi3 hz30 hz31 hz32 hi4 hz40 hz41 hz42 hi5 hz50 hz51 hz52
  go_enter Try.func8, Try.ntmps8
  go_wp2
  go_loopw [6, 7, 8, 9] (fun va vl vp i wr => ∃ k : Nat, k ≤ Ls.length ∧ i = .int .i64 k ∧ Hid (Three w wr va (joinTo Ls k) vl (rowOf Ls f (kept Ls k)) vp (startsTo Ls k))) (fun _ _ _ i _ => Ls.length - (intOf i).toNat)
  case atStart => exact ⟨0, by omega, rfl, Lib.hid ⟨World.ownsRow_nil _ _ _ _, World.ownsRow_nil _ _ _ _, World.ownsRow_nil _ _ _ _, Below.refl _ _⟩⟩
  case round =>
    obtain ⟨k, hk, rfl, HT⟩ := hrel
    by_cases hlt : k < Ls.length
    · obtain ⟨b, o, rfl, hc⟩ := HR.out.2 (by omega)
      have x0 := pw_cell_below HT.out.b (hc k hlt).1
      have X00 := Lib.hid (hc k hlt).1
      have hrd := (hc k hlt).2.below HT.out.b
      have HRD := Lib.hid hrd
      have HM := Lib.hid (total_mono Ls (show k + 1 ≤ Ls.length by omega))
      have HT1 : Hid (total Ls (k + 1) = total Ls k + 10 + (Ls.getD k []).length) := Lib.hid rfl
      have HJ := Lib.hid (joinTo_le Ls k)
      have HBk := Lib.hid (HB.out k)
      have HV : Hid (rowOf Ls f [k] = [.slice (f k).1 (Ls.getD k []).length (f k).2]) := Lib.hid rfl
      have EL : Hid (Ls.getD k [] = Ls.getD k []) := Lib.hid rfl
      clear hc hrd
      cases hok : okB (Ls.getD k []) with
      | false =>
        have hj := joinTo_no hok
        have hkp : kept Ls (k + 1) = kept Ls k := by rw [kept, hok]; simp
        have hst : startsTo Ls (k + 1) = startsTo Ls k := by rw [startsTo, hok]; simp
        have hno : ¬ (1 ≤ (Ls.getD k []).length ∧ (Ls.getD k []).length ≤ 1048576) := by simpa [okB] using hok
        have HN := Lib.hid (And.intro hj (And.intro hkp (And.intro hst hno)))
        have hdec : decide (1 ≤ (Ls.getD k []).length ∧ (Ls.getD k []).length ≤ 1048576) = false := by simp only [decide_eq_false_iff_not]; exact hno
        have HDEC := Lib.hid hdec
        clear hj hkp hst hno hok hdec
        obtain ⟨Lk, eLk⟩ : ∃ x, Ls.getD k [] = x := ⟨_, rfl⟩
        obtain ⟨fa, efa⟩ : ∃ x, (f k).1 = x := ⟨_, rfl⟩
        obtain ⟨fc, efc⟩ : ∃ x, (f k).2 = x := ⟨_, rfl⟩
        rw [eLk, efa] at HRD
        rw [eLk] at HN HDEC
        rw [eLk, efa, efc] at x0
        have hlk := HRD.out.1
        clear eLk efa efc HT1 HM HBk HV EL HJ
        go_wp2_with fail
        refine (put_no fa fc Lk wr HN.out.2.2.2 hlk).mono ?_
        rintro e w1 ⟨rfl, rfl⟩
        go_wp2_with fail
        refine (is_calls fa fc Lk.length wr).mono ?_
        rintro e w1 ⟨rfl, rfl⟩
        rw [HDEC.out]
        go_wp2
        exact ⟨⟨k + 1, by omega, by go_num, by rw [HN.out.1, HN.out.2.1, HN.out.2.2.1]; exact HT⟩, by simp [intOf]; omega⟩
      | true =>
        have hj := joinTo_yes hok
        have hkp : kept Ls (k + 1) = kept Ls k ++ [k] := by rw [kept, if_pos hok]
        have hst : startsTo Ls (k + 1) = startsTo Ls k ++ [(joinTo Ls k).length] := by rw [startsTo, if_pos hok]
        have hyes : 1 ≤ (Ls.getD k []).length ∧ (Ls.getD k []).length ≤ 1048576 := by simpa [okB] using hok
        have hkl := kept_le Ls k
        have hsl := starts_length Ls k
        have HN := Lib.hid (And.intro hj (And.intro hkp (And.intro hst (And.intro hyes (And.intro hkl hsl)))))
        have hdec : decide (1 ≤ (Ls.getD k []).length ∧ (Ls.getD k []).length ≤ 1048576) = true := by simp only [decide_eq_true_eq]; exact hyes
        have HDEC := Lib.hid hdec
        have hs1 : (startsTo Ls k).length ≤ k := by omega
        have hs2 : (rowOf Ls f (kept Ls k)).length ≤ k := by simpa [rowOf] using hkl
        have hk10 : k ≤ 107374183 := by have := total_mono Ls (show 0 ≤ k by omega); have h2 := total_mono Ls hk; simp [total] at this; omega
        clear hj hkp hst hyes hok hdec hkl hsl
        obtain ⟨Lk, eLk⟩ : ∃ x, Ls.getD k [] = x := ⟨_, rfl⟩
        obtain ⟨fa, efa⟩ : ∃ x, (f k).1 = x := ⟨_, rfl⟩
        obtain ⟨fc, efc⟩ : ∃ x, (f k).2 = x := ⟨_, rfl⟩
        rw [eLk, efa] at HRD
        rw [eLk] at HN HDEC HBk HT1
        rw [eLk, efa, efc] at x0
        rw [eLk, efa, efc] at HV X00
        obtain ⟨a1, c1, rfl⟩ := own_form HT.out.a
        obtain ⟨Xn, eXn⟩ : ∃ x, (joinTo Ls k).length = x := ⟨_, rfl⟩
        have EX := Lib.hid eXn
        have HB2 := Lib.hid (show Xn + Lk.length + 10 ≤ 1073741823 by have h1 := HM.out; have h2 := HT1.out; have h3 := HJ.out; omega)
        rw [eXn]
        obtain ⟨m, em⟩ : ∃ m, Lk.length = m := ⟨_, rfl⟩
        have EM := Lib.hid em
        have KP := Lib.hid (put_yes fa fc Lk wr HRD.out HBk.out HN.out.2.2.2.1.1 HN.out.2.2.2.1.2)
        have hm1 := HN.out.2.2.2.1
        have hb2 := HB2.out
        rw [em] at KP x0 X00 HDEC HV hm1 hb2
        clear eLk efa efc HT1 HM EL HJ eXn em HB2
        go_wp2_with fail
        refine KP.out.mono ?_
        rintro e w1 ⟨hB, g, cg, rfl, hg, hcg, hR⟩
        rw [EM.out] at hcg ⊢
        have x1 := pw_cell_below hB x0
        have H1 := Lib.hid (And.intro (HT.out.below hB) (And.intro hg hR))
        have hne : Hid ((Value.slice a1 Xn c1).ownBlock ≠ some g ∧ u8.ownBlock ≠ some g ∧ u7.ownBlock ≠ some g) := Lib.hid ⟨fun e' => by have := (HT.out.a.lt g (by rw [EX.out]; exact e')).2; omega, fun e' => by have := (HT.out.p.lt g e').2; omega, fun e' => by have := (HT.out.l.lt g e').2; omega⟩
        clear hB hg hR x0 KP HT
        go_wp2_with fail
        refine (is_calls fa fc m w1).mono ?_
        rintro e w2 ⟨rfl, rfl⟩
        rw [HDEC.out]
        go_wp2_with (first
          | (at_builtin
             refine wpList_append_own _ rfl (.tmp 52) (.tmp 55) 26 rfl w.heap.size 3 i3 (.int .i64 0) 1 8 Try.underlying26 HI3.out.1 HI3.out.2.1 HI3.out.2.2.1 HI3.out.2.2.2 rfl (by decide) u8 (startsTo Ls k).length (intsV (startsTo Ls k)) rfl (H1.out.1.p.alloc _) ⟨w1.heap.size, 0, none⟩ 1 1 [.int .i64 Xn] rfl rfl (cell_one_new _ _ _) (by simp [Value.oneCell']) (by unfold maxLen; omega) (by omega) (by have := H1.out.1.b.size; simp; omega) ?_
             intro vp W1 hown1 hgrow1 _
             have st1 := app_step H1.out.1.p H1.out.1.b.size hgrow1
             have T1 := H1.out.1.stayP (zs' := startsTo Ls k ++ [Xn]) st1 (by simpa [intsV] using hown1)
             have R1 := (H1.out.2.2.below (below_alloc1 w1 _)).grown hgrow1 hne.out.2.1
             have x2 := pw_cell_below T1.b X00.out
             have H2 := Lib.hid (And.intro T1 R1)
             clear hown1 hgrow1 st1 T1 R1)
          | (at_builtin
             refine wpList_append_own _ rfl (.tmp 57) (.tmp 62) 22 rfl w.heap.size 25 i4 (.slice none 0 0) 1 24 Try.underlying22 HI4.out.1 HI4.out.2.1 HI4.out.2.2.1 HI4.out.2.2.2 rfl (by decide) u7 (rowOf Ls f (kept Ls k)).length (rowOf Ls f (kept Ls k)) rfl (H2.out.1.l.alloc _) ⟨W1.heap.size, 0, none⟩ 1 1 [.slice fa m fc] rfl rfl (cell_one_new _ _ _) (by simp [Value.oneCell']) (by unfold maxLen; omega) (by omega) (by have := H2.out.1.b.size; simp; omega) ?_
             intro vl W2 hown2 hgrow2 _
             have st2 := app_step H2.out.1.l H2.out.1.b.size hgrow2
             have T2 := H2.out.1.stayL (ys' := rowOf Ls f (kept Ls k) ++ [.slice fa m fc]) st2 (by simpa using hown2)
             have R2 := (H2.out.2.below (below_alloc1 W1 _)).grown hgrow2 hne.out.2.2
             have H3 := Lib.hid (And.intro T2 R2)
             clear hown2 hgrow2 st2 T2 R2))
        clear x1 x2
        go_loopw [6, 13] (fun va i wr => ∃ j : Nat, j ≤ m + 9 ∧ i = .int .i64 j ∧ Hid (Three w wr va (joinTo Ls k ++ (frameB Lk).take j) vl (rowOf Ls f (kept Ls k) ++ [.slice fa m fc]) vp (startsTo Ls k ++ [Xn]) ∧ RdB wr (some ⟨g, 0, none⟩) (frameB Lk) ∧ va.ownBlock ≠ some g)) (fun _ i _ => m + 9 - (intOf i).toNat)
        case atStart =>
          refine ⟨0, by omega, rfl, Lib.hid ⟨?_, H3.out.2, hne.out.1⟩⟩
          have := H3.out.1
          rw [EX.out] at this
          simpa using this
        case round =>
          obtain ⟨j, hj, rfl, HQ⟩ := hrel
          have hfl : (frameB Lk).length = m + 9 := by rw [frame_length, EM.out]
          have HFL := Lib.hid hfl
          clear hfl
          by_cases hjm : j < m + 9
          · have y0 : ∀ W : World, RdB W (some ⟨g, 0, none⟩) (frameB Lk) → W.cell? ⟨g, j, none⟩ = some (.int .u8 ((frameB Lk).getD j 0)) := fun W hW => by
              obtain ⟨b', o', e', hc'⟩ := hW.2 (by rw [HFL.out]; omega)
              have e2 : (⟨g, 0, none⟩ : Addr) = ⟨b', o', none⟩ := Option.some.inj e'
              injection e2 with e3 e4
              subst e3 e4
              have := hc' j (by rw [HFL.out]; exact hjm)
              rwa [Nat.zero_add] at this
            have y1 := y0 _ HQ.out.2.1
            have glt := rd_lt HQ.out.2.1 (by rw [HFL.out]; omega)
            have HTK := Lib.hid (take_one (frameB Lk) j (by rw [HFL.out]; exact hjm))
            have ha0 : (joinTo Ls k ++ (frameB Lk).take j).length = Xn + j := by rw [List.length_append, EX.out, List.length_take, HFL.out]; omega
            have ha1 := HQ.out.1.a
            rw [ha0] at ha1
            obtain ⟨a', c', rfl⟩ := own_form ha1
            have HA1 := Lib.hid ha1
            have HY := Lib.hid y0
            obtain ⟨y, ey⟩ : ∃ y, (frameB Lk).getD j 0 = y := ⟨_, rfl⟩
            rw [ey] at y1 HTK
            clear ha0 ha1 y0 ey
            go_wp2_with (at_builtin; refine wpList_append_lies _ rfl (.tmp 70) (.tmp 75) 25 rfl w.heap.size 5 i5 (.int .u8 0) 1 1 Try.underlying25 HI5.out.1 HI5.out.2.1 HI5.out.2.2.1 HI5.out.2.2.2 rfl (by decide) (.slice a' (Xn + j) c') (Xn + j) (bytesV (joinTo Ls k ++ (frameB Lk).take j)) rfl (HA1.out.alloc _) ⟨World.heap _ |>.size, 0, none⟩ 1 1 [.int .u8 y] rfl rfl (cell_one_new _ _ _) (by simp [Value.oneCell']) (by decide) (by unfold maxLen; omega) (by omega) (by have := HQ.out.1.b.size; simp; omega) _ rfl ?_; intro g' cap' W4 hown4 hgrow4 hat4 hlt4; have st4 := app_step HA1.out HQ.out.1.b.size hgrow4; have T4 := HQ.out.1.stayA (va' := .slice (some ⟨g', 0, none⟩) (Xn + j + 1) cap') (X' := joinTo Ls k ++ (frameB Lk).take (j + 1)) st4 (by rw [HTK.out, ← List.append_assoc, List.length_append, List.length_append, EX.out, List.length_take, HFL.out, Nat.min_eq_left (Nat.le_of_lt hjm), ← bytesV_app]; exact hown4); have R4 := (HQ.out.2.1.below (below_alloc1 _ _)).grown hgrow4 HQ.out.2.2; have N4 : (Value.slice (some ⟨g', 0, none⟩) (Xn + j + 1) cap').ownBlock ≠ some g := (by intro e9; have e8 : g' = g := Option.some.inj e9; rcases hat4 with h | h; exact HQ.out.2.2 (by rw [h, e8]); rw [World.size_alloc] at h; omega); have H4 := Lib.hid (And.intro T4 (And.intro R4 N4)); clear hown4 hgrow4 hat4 hlt4 st4 T4 R4 N4)
            exact ⟨⟨j + 1, by omega, by go_num, H4⟩, by simp [intOf]; omega⟩
          · obtain rfl : j = m + 9 := by omega
            have HW : Hid ((frameB Lk).take (m + 9) = frameB Lk) := Lib.hid (List.take_of_length_le (by rw [HFL.out]; exact Nat.le_refl _))
            go_wp2
            refine ⟨⟨k + 1, by omega, by go_num, Lib.hid ?_⟩, by simp [intOf]; omega⟩
            have := HQ.out.1
            rw [HW.out, ← HV.out] at this
            rw [HN.out.1, HN.out.2.1, HN.out.2.2.1, EX.out]
            simpa [rowOf] using this
    · obtain rfl : k = Ls.length := by omega
      obtain ⟨a1, c1, rfl⟩ := own_form HT.out.a
      obtain ⟨a2, c2, rfl⟩ := own_form HT.out.l
      obtain ⟨a3, c3, rfl⟩ := own_form HT.out.p
      go_wp2
      refine bodyPost_ret (results_tmp4 rfl _ _ _) rfl ?_
      exact ⟨_, _, _, rfl, HT.out⟩
end Go.Proofs.Ytbcijdgpaglbnaa.Q
