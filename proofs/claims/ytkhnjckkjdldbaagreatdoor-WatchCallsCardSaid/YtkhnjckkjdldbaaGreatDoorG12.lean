import Derived.Test.YtkhnjckkjdldbaaGreatDoorG11
namespace Go.Proofs.YtkhnjckkjdldbaaGreatDoor.Q
open Go.RowKit Go.Proofs.YtkhnjckkjdldbaaGreatDoorW.PrintWords Go.Deep Go.Maps Go.WideShapes
open Go.Proofs.YtkhnjckkjdldbaaGreatDoor.Pr (S57 S59 S77 S61 k57 k77 k61 rd_T61)
open Go.Proofs.YtkhnjckkjdldbaaGreatDoor
open Go.Proofs.YtkhnjckkjdldbaaGreatDoor.Bag (BagI Row Good Item Lists encS encFd own_lower OwnOf)
set_option linter.unusedVariables false
set_option linter.unusedSimpArgs false
attribute [local go_sem] Oper.semAt_some
/-! WATCHCALLS -/
theorem sys_start {w0 V0 : World} {c b r : Nat → Nat} {q aA aB : Nat} (g : Geo w0 V0 c b r q aA aB) (hB : Below w0.heap.size w0 V0) (hb : ∀ p, p < 2 → Brd (c p) (b p) 0 [] V0) (hr : ∀ p, p < 2 → V0.heap[r p]? = some (.cells #[.slice none 0 0] 82 (0, 0)))
    (ha : V0.heap[aA]? = some (.cells #[.pointer (some ⟨c 0, 0, none⟩), .pointer (some ⟨c 1, 0, none⟩)] 27 (0, 0))) (hb2 : V0.heap[aB]? = some (.cells #[.pointer (some ⟨r 0, 0, none⟩), .pointer (some ⟨r 1, 0, none⟩)] 30 (0, 0)))
    (hq : V0.heap[q]? = some (.cells (bagCells (.slice none 0 0) (.slice none 0 0)) 54 (0, 0))) :
    CallsI w0 V0 c b r q aA aB ⟨fun _ => [], fun _ => 0, fun _ => .slice none 0 0, [], [], .slice none 0 0, .slice none 0 0⟩ 0 V0 := by
  refine ⟨⟨hB, Nat.le_refl _, hb, hr, ha, hb2, hq, ?_, ?_, row_nil _ _ _ _ _, row_nil _ _ _ _ _⟩, fun p hp => by simp, fun p hp s hs => absurd hs (by simp), by simp, by simp, fun y hy => absurd hy (by simp), fun y hy => absurd hy (by simp)⟩
  · show BagI encW 3 V0.heap.size 57 V0 _
    rw [Bag.bagI_iff]
    have e : (rowsL (fun _ => Value.slice none 0 0) (fun _ => ([] : WN).map Prod.fst) ([] ++ [])).map (fun y => Bag.start y.1 y.2) = [Bag.start (.slice none 0 0) [], Bag.start (.slice none 0 0) []] := rfl
    show (∀ it ∈ (rowsL (fun _ => Value.slice none 0 0) (fun _ => ([] : WN).map Prod.fst) ([] ++ [])).map (fun y => Bag.start y.1 y.2), _) ∧ _
    rw [e]
    refine ⟨fun it hi => ?_, ?_⟩
    · have : it = Bag.start (.slice none 0 0) [] := by simpa using hi
      rw [this]
      exact Bag.start_good (row_nil _ _ _ _ _)
    · rw [List.pairwise_pair]
      intro k hk
      rcases hk with h | h <;> cases h
  · exact ⟨fun j hj => absurd hj (Nat.not_lt_zero _), fun j k hj => absurd hj (Nat.not_lt_zero _)⟩
def pick2 (a b : Nat) : Nat → Nat := fun p => if p = 0 then a else b
theorem pick2_0 (a b : Nat) : pick2 a b 0 = a := rfl
theorem pick2_1 (a b : Nat) : pick2 a b 1 = b := rfl
theorem two_cases {p : Nat} (hp : p < 2) : p = 0 ∨ p = 1 := by omega
/-- a store into a block of the walk's own -/
theorem Sys.told {w0 V0 : World} {c b r : Nat → Nat} {q aA aB : Nat} {P : Nat → WN} {came : Nat → Int} {x : Nat → Value} {L : Nat → List S57} {LW pw : Lists S57} {LF pf : Lists S77} {vW vF : Value} {W W' : World} (h : Sys w0 V0 c b r q aA aB P came x L LW pw LF pf vW vF W) {kt : Nat} {cs : Array Value} (hk : W.heap[kt]? = some (.cells cs 66 (0, 0))) (hw : w0.heap.size ≤ kt) (ho : Only (fun j => j = kt) W W') :
    Sys w0 V0 c b r q aA aB P came x L LW pw LF pf vW vF W' := by
  have notS : ∀ {j : Nat} {cs : Array Value} {t : TypeId} {fr : Nat × Nat}, W.heap[j]? = some (.cells cs t fr) → t ≠ 66 → ¬ (j = kt) := fun {j cs t fr} hj h1 e => by
    subst e; rw [hk] at hj; cases hj; exact h1 rfl
  refine ⟨ho.from h.bel (fun k hk => by omega), Nat.le_trans h.size ho.size, fun s hs => (h.brd s hs).onlyN ho (notS (h.brd s hs).cells (by decide)) (fun e => by rw [← e] at hk; exact (h.brd s hs).isMap hk), fun s hs => ho.blk (h.ref s hs) (notS (h.ref s hs) (by decide)), ho.blk h.arrA (notS h.arrA (by decide)), ho.blk h.arrB (notS h.arrB (by decide)), ho.blk h.bag (notS h.bag (by decide)), ?_, ?_, ?_, ?_⟩
  · refine h.rows.onlyN ho fun it hi k hk => ?_
    obtain ⟨_, _, cs, h3⟩ := h.rows.typed hi hk
    exact notS h3 (by decide)
  · refine h.fired.onlyN ho fun it hi k hk => ?_
    obtain ⟨_, _, cs, h3⟩ := h.fired.typed hi hk
    exact notS h3 (by decide)
  · refine h.outW.onlyN ho fun k hk => ?_
    obtain ⟨_, _, cs, h3⟩ := Row.typedQ h.outW hk
    exact notS h3 (by decide)
  · refine h.outF.onlyN ho fun k hk => ?_
    obtain ⟨_, _, cs, h3⟩ := Row.typedQ h.outF hk
    exact notS h3 (by decide)
/-- behind the program's step -/
structure Mid1 (w0 V0 : World) (c b r : Nat → Nat) (q aA aB : Nat) (G : Gh) (p : Nat) (D : DoneB) (kt : Nat) (s1 s2 : Value) (W : World) : Prop where
  sys : Sys w0 V0 c b r q aA aB (upd G.P p D.left) (upd G.came p D.came) G.x G.L G.LW [(s2, D.told)] G.LF [(s1, D.fired)] G.vW G.vF W
  blk : W.heap[kt]? = some (.cells #[.int .i64 D.e, s1, s2] 66 (0, 0))
theorem Mid1.below {w0 V0 : World} {c b r : Nat → Nat} {q aA aB : Nat} {G : Gh} {p : Nat} {D : DoneB} {kt : Nat} {s1 s2 : Value} {W W' : World} (h : Mid1 w0 V0 c b r q aA aB G p D kt s1 s2 W) (hB : Below W.heap.size W W') : Mid1 w0 V0 c b r q aA aB G p D kt s1 s2 W' := ⟨h.sys.below hB, blkK h.blk hB⟩
/-- behind the document's step -/
structure Mid2 (w0 V0 : World) (c b r : Nat → Nat) (q aA aB : Nat) (G : Gh) (p : Nat) (D : DoneB) (kt ku : Nat) (x' s1 s2 s3 s4 : Value) (W : World) : Prop where
  sys : Sys w0 V0 c b r q aA aB (upd G.P p D.left) (upd G.came p D.came) (upd G.x p x') (upd G.L p (D.left.map Prod.fst)) G.LW [(s2, D.told)] G.LF [(s1, D.fired)] G.vW G.vF W
  blk : W.heap[kt]? = some (.cells #[.int .i64 D.e, s1, s2] 66 (0, 0))
  blk2 : W.heap[ku]? = some (.cells #[.int .i64 D.e, s3, s4] 66 (0, 0))
  row3 : ∃ bF, Row encFd 5 bF 77 W s3 D.fired
  row4 : ∃ bW, Row encW 3 bW 57 W s4 D.told
theorem row_told {α : Type} {enc : α → List Value} {size base : Nat} {e : TypeId} {W W' : World} {v : Value} {xs : List α} (h : Row enc size base e W v xs) {kt : Nat} {cs : Array Value} (hk : W.heap[kt]? = some (.cells cs 66 (0, 0))) (he : e ≠ 66) (ho : Only (fun j => j = kt) W W') : Row enc size base e W' v xs :=
  h.onlyN ho fun k hk2 e2 => by
    obtain ⟨_, _, cs', h3⟩ := Row.typedQ h hk2
    rw [e2, hk] at h3
    have h4 := (Obj.cells.inj (Option.some.inj h3)).2.1
    exact he h4.symm
set_option maxRecDepth 100000 in
set_option maxHeartbeats 16000000 in
theorem watchCalls_calls (A0 : Option Addr) (c0 : Nat) (l : List S61) (w : World) (hr0 : Kd.C k61 w A0 l.length l) (hc0 : l.length ≤ c0) (hwf : ∀ x ∈ l, wfW x.f2) (hT : Tabs w) :
    Calls Tryz.prog 3 #[.slice A0 l.length c0] w fun e w' => e = .returned (.bool true) ∧ Below w.heap.size w w' := by
  obtain ⟨r, hrf, hlg⟩ := long_f l
  have KLg := Pr.lagoonlaw18_long.calls _ A0 c0 l r w hr0 hc0 hrf
  have HR0 := Lib.hid hr0
  have HWF := Lib.hid hwf
  have HT := Lib.hid hT
  obtain ⟨N, hN⟩ : ∃ n, l.length = n := ⟨_, rfl⟩
  have HN := Lib.hid hN
  rw [hN] at hc0 KLg ⊢
  have KLg := Lib.hid KLg
  have HLG := Lib.hid hlg
  clear hr0 hwf hT hN hrf hlg
  go_enter Tryz.func3, Tryz.ntmps3
  go_wp2_with fail
  refine KLg.out.mono ?_
  rintro e w1 ⟨rfl, hB⟩
  have HB1 := Lib.hid (show Below w.heap.size w w1 by first | exact hB | exact hB.below)
  clear hB KLg
  cases r with
  | true =>
    go_wp2
    go_ret
    exact ⟨rfl, HB1.out⟩
  | false =>
  obtain ⟨hN30, hszl⟩ := HLG.out rfl
  rw [HN.out] at hN30
  have HSZL := Lib.hid hszl
  have KL := Lib.hid (lives_calls w1 (tabs_from HT.out HB1.out))
  clear hszl HLG
  go_wp2_with fail
  refine KL.out.mono ?_
  rintro e w2 ⟨rfl, hB⟩
  have HB2 := Lib.hid (below_step HB1.out hB)
  have KN := Lib.hid (newB_calls w2)
  clear hB KL
  go_wp2_with fail
  refine KN.out.mono ?_
  rintro e w3 ⟨ca, ba, rfl, hbra, hB, hbw, hcw⟩
  have HB3 := Lib.hid (below_step HB2.out hB)
  have HA3 := Lib.hid (And.intro hbra (And.intro hbw (And.intro hcw (And.intro (show ba < w3.heap.size by obtain ⟨D, h1, _⟩ := hbra.map; exact h1.lt) (Array.getElem?_eq_some_iff.1 hbra.cells).1))))
  have KN := Lib.hid (newB_calls w3)
  clear hB hbra hbw hcw
  go_wp2_with fail
  refine KN.out.mono ?_
  rintro e w4 ⟨cb, bb, rfl, hbrb, hB, hbw, hcw⟩
  obtain ⟨W4, hW4, hB4, hz4⟩ := two_allocs_eq (w := w4) (t := 27) (cs := #[.pointer (some ⟨ca, 0, none⟩), .pointer (some ⟨cb, 0, none⟩)])
  have HB4 := Lib.hid (below_step HB3.out (below_step hB hB4))
  have HA4 := Lib.hid (And.intro (HA3.out.1.below (below_step hB hB4)) (And.intro (hbrb.below hB4) (And.intro hbw (And.intro hcw (And.intro (show bb < w4.heap.size by obtain ⟨D, h1, _⟩ := hbrb.map; exact h1.lt) (And.intro (Array.getElem?_eq_some_iff.1 hbrb.cells).1 (And.intro hz4 (And.intro hB.size hB4.size))))))))
  have HW4 := Lib.hid hW4
  have KR := Lib.hid (rNew_calls W4)
  clear hB hbrb hbw hcw hW4 hB4 hz4 KN
  go_wp2_with fail
  rw [HW4.out]
  refine KR.out.mono ?_
  rintro e w5 ⟨rfl, hr5, hB, hs5⟩
  have HB5 := Lib.hid (And.intro hB hs5)
  have HR5 := Lib.hid hr5
  have KR := Lib.hid (rNew_calls w5)
  clear hr5 hB hs5
  go_wp2_with fail
  refine KR.out.mono ?_
  rintro e w6 ⟨rfl, hr6, hB, hs6⟩
  obtain ⟨W6, hW6, hB6, hz6⟩ := two_allocs_eq (w := w6) (t := 30) (cs := #[.pointer (some ⟨W4.heap.size, 0, none⟩), .pointer (some ⟨w5.heap.size, 0, none⟩)])
  obtain ⟨W7, hW7, hB7, hz7⟩ := two_allocs_eq (w := W6) (t := 54) (cs := bagCells (.slice none 0 0) (.slice none 0 0))
  have HW6 := Lib.hid hW6
  have HW7 := Lib.hid hW7
  have hB47 : Below W4.heap.size W4 W7 := below_step HB5.out.1 (below_step hB (below_step hB6 hB7))
  have HBG := Lib.hid (And.intro (below_step HB4.out hB47) (And.intro (HA4.out.1.below hB47) (And.intro (HA4.out.2.1.below hB47) (And.intro (blkK HA4.out.2.2.2.2.2.2.1 hB47) (And.intro (blkK HR5.out (below_step hB (below_step hB6 hB7))) (And.intro (blkK hr6 (below_step hB6 hB7)) (And.intro (blkK hz6 hB7) hz7)))))))
  have hsizes : w2.heap.size ≤ ba ∧ w2.heap.size ≤ ca ∧ ba < w3.heap.size ∧ ca < w3.heap.size ∧ w3.heap.size ≤ bb ∧ w3.heap.size ≤ cb ∧ bb < w4.heap.size ∧ cb < w4.heap.size ∧ w4.heap.size < W4.heap.size ∧ W4.heap.size < w5.heap.size ∧ w5.heap.size < w6.heap.size ∧ w6.heap.size < W6.heap.size ∧ W6.heap.size < W7.heap.size ∧ w.heap.size ≤ w2.heap.size :=
    ⟨HA3.out.2.1, HA3.out.2.2.1, HA3.out.2.2.2.1, HA3.out.2.2.2.2, HA4.out.2.2.1, HA4.out.2.2.2.1, HA4.out.2.2.2.2.1, HA4.out.2.2.2.2.2.1, (Array.getElem?_eq_some_iff.1 HA4.out.2.2.2.2.2.2.1).1, HB5.out.2, hs6, (Array.getElem?_eq_some_iff.1 hz6).1, (Array.getElem?_eq_some_iff.1 hz7).1, HB2.out.size⟩
  have HG : Hid (Geo w W7 (pick2 ca cb) (pick2 ba bb) (pick2 W4.heap.size w5.heap.size) W6.heap.size w4.heap.size w6.heap.size) := Lib.hid (by
    refine ⟨fun p hp => ?_, fun p hp => ?_, fun p hp => ?_, ?_, ?_, ?_, fun p s hp hs hne => ?_, fun p s hp hs hne => ?_, fun p s hp hs hne => ?_⟩
    · rcases two_cases hp with rfl | rfl
      · rw [pick2_0]; omega
      · rw [pick2_1]; omega
    · rcases two_cases hp with rfl | rfl
      · rw [pick2_0]; omega
      · rw [pick2_1]; omega
    · rcases two_cases hp with rfl | rfl
      · rw [pick2_0]; omega
      · rw [pick2_1]; omega
    · omega
    · omega
    · omega
    · rcases two_cases hp with rfl | rfl <;> rcases two_cases hs with rfl | rfl <;> simp only [pick2_0, pick2_1] <;> omega
    · rcases two_cases hp with rfl | rfl <;> rcases two_cases hs with rfl | rfl <;> simp only [pick2_0, pick2_1] <;> omega
    · rcases two_cases hp with rfl | rfl <;> rcases two_cases hs with rfl | rfl <;> simp only [pick2_0, pick2_1] <;> omega)
  have HST : Hid (CallsI w W7 (pick2 ca cb) (pick2 ba bb) (pick2 W4.heap.size w5.heap.size) W6.heap.size w4.heap.size w6.heap.size ⟨fun _ => [], fun _ => 0, fun _ => .slice none 0 0, [], [], .slice none 0 0, .slice none 0 0⟩ 0 W7) := Lib.hid (by
    obtain ⟨g1, g2, g3, g4, g5, g6, g7, g8⟩ := HBG.out
    refine sys_start HG.out g1 (fun p hp => ?_) (fun p hp => ?_) g4 g7 g8
    · rcases two_cases hp with rfl | rfl
      · exact g2
      · exact g3
    · rcases two_cases hp with rfl | rfl
      · exact g5
      · exact g6)
  have xa0 : w6.cell? ⟨w4.heap.size, 0, none⟩ = some (.pointer (some ⟨ca, 0, none⟩)) := by
    have h1 := blkK HA4.out.2.2.2.2.2.2.1 (below_step HB5.out.1 hB)
    exact cell_rowK h1 rfl
  have xa1 : w6.cell? ⟨w4.heap.size, 1, none⟩ = some (.pointer (some ⟨cb, 0, none⟩)) := by
    have h1 := blkK HA4.out.2.2.2.2.2.2.1 (below_step HB5.out.1 hB)
    exact cell_rowK h1 rfl
  have h46 : w4.heap.size < w6.heap.size := by omega
  have hN45 : w6.heap.size ≠ w4.heap.size := by omega
  clear hr6 hB hs6 hW6 hW7 hB6 hz6 hB7 hz7 hB47 hsizes HBG HB5 HR5 HA4 HA3 KR
  have h67 : W6.heap.size = w6.heap.size + 1 := by rw [← HW6.out]; simp
  rw [h67] at HG HST
  obtain ⟨c, hc⟩ : ∃ f, pick2 ca cb = f := ⟨_, rfl⟩
  obtain ⟨b, hb⟩ : ∃ f, pick2 ba bb = f := ⟨_, rfl⟩
  obtain ⟨r, hr⟩ : ∃ f, pick2 W4.heap.size w5.heap.size = f := ⟨_, rfl⟩
  rw [hc, hb, hr] at HG HST
  have HTB : Hid (∀ W, Below w.heap.size w W → Tabs W) := Lib.hid (fun W h => tabs_from HT.out h)
  clear hb hr
  have hca : c 0 = ca := by rw [← hc]; rfl
  have hcb : c 1 = cb := by rw [← hc]; rfl
  have HCC := Lib.hid (And.intro hca hcb)
  clear hc hca hcb h67
  go_wp2_with fail
  rw [HW6.out, HW7.out]
  clear xa0 xa1 h46 hN45 HW6 HW7 HW4 HB1 HB2 HB3 HB4
  obtain ⟨aA, haA⟩ : ∃ n, w4.heap.size = n := ⟨_, rfl⟩
  obtain ⟨aB, haB⟩ : ∃ n, w6.heap.size = n := ⟨_, rfl⟩
  rw [haA, haB] at HG HST ⊢
  clear haA haB
  go_loopw [7] (fun vi wr => ∃ i : Int, vi = .int .i64 i ∧ 0 ≤ i ∧ i ≤ (N : Int) ∧ Hid (∃ G, CallsI w W7 c b r (aB + 1) aA aB G i.toNat wr)) (fun vi _ => ((N : Int) - intOf vi).toNat)
  case atStart => exact ⟨0, rfl, by omega, by omega, Lib.hid ⟨_, HST.out⟩⟩
  case round =>
  clear HST
  obtain ⟨i, rfl, i0, iN, HI⟩ := hrel
  obtain ⟨G, hGI⟩ := HI.out
  have HGI := Lib.hid hGI
  clear hGI HI
  by_cases c2 : i < (N : Int)
  · have q2 : decide (i < (N : Int)) = true := decide_eq_true c2
    have hx : i.toNat < l.length := by rw [HN.out]; omega
    obtain ⟨ad, eA, o0, o1, o2, o3, o4, o5, o6⟩ := Pr.at_T61 (Kd.C_below HR0.out HGI.out.sys.bel) i i0 (by rw [HN.out]; exact c2)
    have hrd : rd_T61 l i = l[i.toNat] := by simp [rd_T61, List.getD, List.getElem?_eq_getElem hx]
    rw [hrd] at o0 o1 o2 o3 o4 o5 o6
    obtain ⟨y, hy⟩ : ∃ y, l[i.toNat] = y := ⟨_, rfl⟩
    have hwy : wfW y.f2 := by rw [← hy]; exact HWF.out _ (List.getElem_mem _)
    have hsy : y.f2.f2.size ≤ 536870911 ∧ y.f3.f1.size ≤ 536870911 := by rw [← hy]; exact HSZL.out _ (List.getElem_mem _)
    rw [hy] at o0 o1 o2 o3 o4 o5 o6
    subst eA
    have i0' := eq_true i0
    have c2' := eq_true c2
    obtain ⟨p, hp2, hbit⟩ := bit_and y.f0
    have HY := Lib.hid (And.intro hwy hsy)
    have HYY := Lib.hid hy
    clear hrd hy hwy hsy
    obtain ⟨pl, wh, ⟨a, k, pp⟩, ⟨ck, cp⟩⟩ := y
    simp only at o0 o1 o2 o3 o4 o5 o6 hbit
    by_cases d1 : wh < 0
    · have q3 : decide (wh < 0) = true := decide_eq_true d1
      go_wp2
      go_roundw
      case measure => simp [intOf]; omega
      case rel => exact ⟨i + 1, rfl, by omega, by omega, Lib.hid ⟨G, by rw [show (i + 1).toNat = i.toNat + 1 by omega]; exact HGI.out.mono⟩⟩
    · have q3 : decide (wh < 0) = false := decide_eq_false d1
      by_cases d2 : 4 < wh
      · have q4 : decide (4 < wh) = true := decide_eq_true d2
        go_wp2
        go_roundw
        case measure => simp [intOf]; omega
        case rel => exact ⟨i + 1, rfl, by omega, by omega, Lib.hid ⟨G, by rw [show (i + 1).toNat = i.toNat + 1 by omega]; exact HGI.out.mono⟩⟩
      · have q4 : decide (4 < wh) = false := decide_eq_false d2
        go_upto_region 14 with fail
        have hpc : G.came p < 4611686018427387904 := by have := HGI.out.came p hp2; omega
        obtain ⟨D, hD⟩ : ∃ D, doneB (G.P p) (G.came p) ⟨pl, wh, ⟨a, k, pp⟩, ⟨ck, cp⟩⟩ = D := ⟨_, rfl⟩
        have HD := Lib.hid hD
        have KD : Hid (∀ V, Below wr.heap.size wr V → Calls Tryz.prog 8 #[.pointer (some ⟨c p, 0, none⟩), .agg #[.int .i64 pl, .int .i64 wh, .int .i64 a, .int .i8 k, .string pp, .int .i8 ck, .string cp]] V fun e w' => ∃ A1 n1 c1 A2 n2 c2, e = .returned (.agg #[.int .i64 D.e, .slice A1 n1 c1, .slice A2 n2 c2]) ∧
          Sys w W7 c b r (aB + 1) aA aB (upd G.P p D.left) (upd G.came p D.came) G.x G.L G.LW [(.slice A2 n2 c2, D.told)] G.LF [(.slice A1 n1 c1, D.fired)] G.vW G.vF w' ∧ Only (fun k => k = b p ∨ k = c p) V w') := Lib.hid (fun V hV => by
          have h1 := (HGI.out.sys.below hV).does_calls HG.out hp2 ⟨pl, wh, ⟨a, k, pp⟩, ⟨ck, cp⟩⟩ HY.out.1 (by have := HY.out.2.1; simp only at this ⊢; omega) (by have := HY.out.2.2; simp only at this ⊢; omega) hpc (HGI.out.right p hp2) HTB.out
          rw [hD] at h1
          exact h1)
        have hpin : ((p : Int) < 2) = True := eq_true (by omega)
        have hp0 : ((0 : Int) ≤ (p : Int)) = True := eq_true (by omega)
        have xA : wr.drew.cell? ⟨aA, p, none⟩ = some (.pointer (some ⟨c p, 0, none⟩)) := by
          show wr.cell? _ = _
          rcases two_cases hp2 with rfl | rfl
          · exact cell_rowK HGI.out.sys.arrA rfl
          · exact cell_rowK HGI.out.sys.arrA rfl
        have HO := Lib.hid (And.intro o0 (And.intro o1 (And.intro o2 (And.intro o3 (And.intro o4 (And.intro o5 o6))))))
        have HXA := Lib.hid xA
        clear hD hpc
        go_cut [9] (fun v wz => ∃ kt A1 n1 c1 A2 n2 c2, v = .pointer (some ⟨kt, 0, none⟩) ∧ Mid1 w W7 c b r (aB + 1) aA aB G p D kt (.slice A1 n1 c1) (.slice A2 n2 c2) wz)
        case first =>
          have t0 : wr.drew.cell? (ad.add (i.toNat * 7)) = some (.int .i64 pl) := o0
          clear o0 o1 o2 o3 o4 o5 o6
          have t1 := HO.out.2.1
          have t2 := HO.out.2.2.1
          have t3 := HO.out.2.2.2.1
          have t4 := HO.out.2.2.2.2.1
          have t5 := HO.out.2.2.2.2.2.1
          have t6 := HO.out.2.2.2.2.2.2
          have hbp : b p < wr.heap.size ∧ c p < wr.heap.size := by have h1 := HG.out.lb p hp2; have h2 := HG.out.lc p hp2; have h3 := HGI.out.sys.size; omega
          have K0 := Lib.hid (KD.out wr.drew (below_drew (Below.refl _ _)))
          have K1 : Hid (Calls Tryz.prog 8 #[.pointer (some ⟨c p, 0, none⟩), .agg #[.int .i64 pl, .int .i64 wh, .int .i64 a, .int .i8 k, .string pp, .int .i8 ck, .string cp]] ((wr.alloc (.cells #[.int .i64 0, .slice none 0 0, .slice none 0 0] 66)).drew) fun e w' => ∃ A1 n1 c1 A2 n2 c2, e = .returned (.agg #[.int .i64 D.e, .slice A1 n1 c1, .slice A2 n2 c2]) ∧
            Sys w W7 c b r (aB + 1) aA aB (upd G.P p D.left) (upd G.came p D.came) G.x G.L G.LW [(.slice A2 n2 c2, D.told)] G.LF [(.slice A1 n1 c1, D.fired)] G.vW G.vF w' ∧ w'.heap[wr.heap.size]? = some (.cells #[.int .i64 0, .slice none 0 0, .slice none 0 0] 66 (0, 0))) := Lib.hid ((KD.out _ (below_drew (below_alloc (Below.refl _ _) _))).mono (by
              rintro e w' ⟨A1, n1, c1, A2, n2, c2, he, hS, ho⟩
              exact ⟨A1, n1, c1, A2, n2, c2, he, hS, ho.blk (show (wr.alloc _).heap[wr.heap.size]? = _ from World.alloc_heap_new wr _) (by rintro (h | h) <;> omega)⟩))
          clear KD
          have al : ∀ (a : Addr) (v : Value), wr.cell? a = some v → (wr.alloc (.cells #[.int .i64 0, .slice none 0 0, .slice none 0 0] 66)).cell? a = some v := fun a v h => pw_cell_below (below_alloc (Below.refl wr.heap.size wr) _) h
          have uA := al _ _ HXA.out
          have v0 := al _ _ HO.out.1
          have v1 := al _ _ HO.out.2.1
          have v2 := al _ _ HO.out.2.2.1
          have v3 := al _ _ HO.out.2.2.2.1
          have v4 := al _ _ HO.out.2.2.2.2.1
          have v5 := al _ _ HO.out.2.2.2.2.2.1
          have v6 := al _ _ HO.out.2.2.2.2.2.2
          clear al
          have hww : w.heap.size ≤ wr.heap.size := HGI.out.sys.bel.size
          go_region_with (first
            | (go_at_call 8; refine K1.out.mono ?_; rintro e w2 ⟨A1, n1, c1, A2, n2, c2, rfl, hS, hz⟩; have HS := Lib.hid (And.intro hS hz); have s0 := cell_rowK (k := 0) (v := .int .i64 0) hz rfl; have s1 := cell_rowK (k := 1) (v := .slice none 0 0) hz rfl; have s2 := cell_rowK (k := 2) (v := .slice none 0 0) hz rfl; have f0 := frozen_rowK (j := 0) hz; have f1 := frozen_rowK (j := 1) hz; have f2 := frozen_rowK (j := 2) hz; clear hS hz)
            | (go_at_call 8; refine K0.out.mono ?_; rintro e w2 ⟨A1, n1, c1, A2, n2, c2, rfl, hS, ho⟩; have HS := Lib.hid hS; clear hS ho))
          all_goals (
            go_wp2_with fail
            go_meet
            case rel => first
              | exact ⟨_, A1, n1, c1, A2, n2, c2, rfl, HS.out.1.told HS.out.2 hww (only_three _ _ _ _ _), set3 HS.out.2 _ _ _⟩
              | exact ⟨_, A1, n1, c1, A2, n2, c2, rfl, HS.out.below (below_alloc (Below.refl _ _) _), World.alloc_heap_new w2 _⟩)
        case rest =>
          obtain ⟨kt, A1, n1, c1, A2, n2, c2', rfl, hM1⟩ := hcut
          have HM := Lib.hid hM1
          obtain ⟨ad', eA', p0, p1, p2, p3, p4, p5, p6⟩ := Pr.at_T61 (Kd.C_below HR0.out hM1.sys.bel) i i0 (by rw [HN.out]; exact c2)
          have hrd : rd_T61 l i = ⟨pl, wh, ⟨a, k, pp⟩, ⟨ck, cp⟩⟩ := by rw [← HYY.out]; simp [rd_T61, List.getD, List.getElem?_eq_getElem hx]
          rw [hrd] at p0 p1 p2 p3 p4 p5 p6
          obtain rfl : ad = ad' := Option.some.inj eA'
          simp only at p0 p1 p2 p3 p4 p5 p6
          have hfew : (G.P p).length ≤ 64 := (HGI.out.sys.brd p hp2).few
          have KW : Hid (∀ V, Below wc.heap.size wc V → Calls Tryz.prog 9 #[.pointer (some ⟨r p, 0, none⟩), .agg #[.int .i64 pl, .int .i64 wh, .int .i64 a, .int .i8 k, .string pp, .int .i8 ck, .string cp]] V fun e w' => ∃ A3 n3 c3 A4 n4 c4 x', e = .returned (.agg #[.int .i64 D.e, .slice A3 n3 c3, .slice A4 n4 c4]) ∧ (∃ bF, Row encFd 5 bF 77 w' (.slice A3 n3 c3) D.fired) ∧ (∃ bW, Row encW 3 bW 57 w' (.slice A4 n4 c4) D.told) ∧
              Sys w W7 c b r (aB + 1) aA aB (upd G.P p D.left) (upd G.came p D.came) (upd G.x p x') (upd G.L p (D.left.map Prod.fst)) G.LW [(.slice A2 n2 c2', D.told)] G.LF [(.slice A1 n1 c1, D.fired)] G.vW G.vF w' ∧ Only (fun k => k = r p ∨ (G.x p).ownBlock = some k) V w') := Lib.hid (fun V hV => by
            have h1 := (HM.out.sys.below hV).wants_calls (came0 := G.came p) HG.out hp2 ⟨pl, wh, ⟨a, k, pp⟩, ⟨ck, cp⟩⟩ rfl hfew (by have := HY.out.2.1; simp only at this ⊢; omega) (by have := HY.out.2.2; simp only at this ⊢; omega) (HGI.out.right p hp2)
            rw [HD.out] at h1
            exact h1)
          have xB : wc.drew.cell? ⟨aB, p, none⟩ = some (.pointer (some ⟨r p, 0, none⟩)) := by
            show wc.cell? _ = _
            rcases two_cases hp2 with rfl | rfl
            · exact cell_rowK hM1.sys.arrB rfl
            · exact cell_rowK hM1.sys.arrB rfl
          have HP := Lib.hid (And.intro p0 (And.intro p1 (And.intro p2 (And.intro p3 (And.intro p4 (And.intro p5 p6))))))
          have HXB := Lib.hid xB
          clear hrd hfew KD HXA o0 o1 o2 o3 o4 o5 o6 xA eA' hM1
          go_upto_region 15 with fail
          go_cut [10] (fun v wz => ∃ ku x' A3 n3 c3 A4 n4 c4, v = .pointer (some ⟨ku, 0, none⟩) ∧ Mid2 w W7 c b r (aB + 1) aA aB G p D kt ku x' (.slice A1 n1 c1) (.slice A2 n2 c2') (.slice A3 n3 c3) (.slice A4 n4 c4) wz)
          case first =>
            have t0 : wc.drew.cell? (ad.add (i.toNat * 7)) = some (.int .i64 pl) := p0
            clear p0 p1 p2 p3 p4 p5 p6
            have t1 := HP.out.2.1
            have t2 := HP.out.2.2.1
            have t3 := HP.out.2.2.2.1
            have t4 := HP.out.2.2.2.2.1
            have t5 := HP.out.2.2.2.2.2.1
            have t6 := HP.out.2.2.2.2.2.2
            have hbp : r p < wc.heap.size ∧ ∀ j, (G.x p).ownBlock = some j → j < wc.heap.size := ⟨by have h1 := HG.out.lr p hp2; have h3 := HM.out.sys.size; omega, fun j hj => ((HM.out.sys.row hp2).lt hj).2⟩
            have K0 : Hid (Calls Tryz.prog 9 #[.pointer (some ⟨r p, 0, none⟩), .agg #[.int .i64 pl, .int .i64 wh, .int .i64 a, .int .i8 k, .string pp, .int .i8 ck, .string cp]] wc.drew fun e w' => ∃ A3 n3 c3 A4 n4 c4 x', e = .returned (.agg #[.int .i64 D.e, .slice A3 n3 c3, .slice A4 n4 c4]) ∧ (∃ bF, Row encFd 5 bF 77 w' (.slice A3 n3 c3) D.fired) ∧ (∃ bW, Row encW 3 bW 57 w' (.slice A4 n4 c4) D.told) ∧
              Sys w W7 c b r (aB + 1) aA aB (upd G.P p D.left) (upd G.came p D.came) (upd G.x p x') (upd G.L p (D.left.map Prod.fst)) G.LW [(.slice A2 n2 c2', D.told)] G.LF [(.slice A1 n1 c1, D.fired)] G.vW G.vF w' ∧ w'.heap[kt]? = some (.cells #[.int .i64 D.e, .slice A1 n1 c1, .slice A2 n2 c2'] 66 (0, 0))) := Lib.hid ((KW.out wc.drew (below_drew (Below.refl _ _))).mono (by
                rintro e w' ⟨A3, n3, c3, A4, n4, c4, x', he, h3, h4, hS, ho⟩
                exact ⟨A3, n3, c3, A4, n4, c4, x', he, h3, h4, hS, (HM.out.sys.below (below_drew (Below.refl _ _))).keptW hp2 ho HM.out.blk (by decide) (by decide)⟩))
            have K1 : Hid (Calls Tryz.prog 9 #[.pointer (some ⟨r p, 0, none⟩), .agg #[.int .i64 pl, .int .i64 wh, .int .i64 a, .int .i8 k, .string pp, .int .i8 ck, .string cp]] ((wc.alloc (.cells #[.int .i64 0, .slice none 0 0, .slice none 0 0] 66)).drew) fun e w' => ∃ A3 n3 c3 A4 n4 c4 x', e = .returned (.agg #[.int .i64 D.e, .slice A3 n3 c3, .slice A4 n4 c4]) ∧ (∃ bF, Row encFd 5 bF 77 w' (.slice A3 n3 c3) D.fired) ∧ (∃ bW, Row encW 3 bW 57 w' (.slice A4 n4 c4) D.told) ∧
              Sys w W7 c b r (aB + 1) aA aB (upd G.P p D.left) (upd G.came p D.came) (upd G.x p x') (upd G.L p (D.left.map Prod.fst)) G.LW [(.slice A2 n2 c2', D.told)] G.LF [(.slice A1 n1 c1, D.fired)] G.vW G.vF w' ∧ w'.heap[kt]? = some (.cells #[.int .i64 D.e, .slice A1 n1 c1, .slice A2 n2 c2'] 66 (0, 0)) ∧ w'.heap[wc.heap.size]? = some (.cells #[.int .i64 0, .slice none 0 0, .slice none 0 0] 66 (0, 0)) ∧ wc.heap.size ≠ kt) := Lib.hid ((KW.out _ (below_drew (below_alloc (Below.refl _ _) _))).mono (by
                rintro e w' ⟨A3, n3, c3, A4, n4, c4, x', he, h3, h4, hS, ho⟩
                have hkt : kt < wc.heap.size := (Array.getElem?_eq_some_iff.1 HM.out.blk).1
                exact ⟨A3, n3, c3, A4, n4, c4, x', he, h3, h4, hS, (HM.out.sys.below (below_drew (below_alloc (Below.refl _ _) _))).keptW hp2 ho (blkK HM.out.blk (below_drew (below_alloc (Below.refl _ _) _))) (by decide) (by decide), ho.blk (show (wc.alloc _).heap[wc.heap.size]? = _ from World.alloc_heap_new wc _) (by
                  rintro (h | h)
                  · omega
                  · have := hbp.2 _ h; omega), by omega⟩))
            clear KW
            have al : ∀ (a : Addr) (v : Value), wc.cell? a = some v → (wc.alloc (.cells #[.int .i64 0, .slice none 0 0, .slice none 0 0] 66)).cell? a = some v := fun a v h => pw_cell_below (below_alloc (Below.refl wc.heap.size wc) _) h
            have uA := al _ _ HXB.out
            have v0 := al _ _ HP.out.1
            have v1 := al _ _ HP.out.2.1
            have v2 := al _ _ HP.out.2.2.1
            have v3 := al _ _ HP.out.2.2.2.1
            have v4 := al _ _ HP.out.2.2.2.2.1
            have v5 := al _ _ HP.out.2.2.2.2.2.1
            have v6 := al _ _ HP.out.2.2.2.2.2.2
            clear al
            have hww : w.heap.size ≤ wc.heap.size := HM.out.sys.bel.size
            go_region_with (first
              | (go_at_call 9; refine K1.out.mono ?_; rintro e w2 ⟨A3, n3, c3, A4, n4, c4, x', rfl, h3, h4, hS, hkt, hz, hne⟩; have HS := Lib.hid (And.intro hS (And.intro hz (And.intro hkt (And.intro hne (And.intro h3 h4))))); have s0 := cell_rowK (k := 0) (v := .int .i64 0) hz rfl; have s1 := cell_rowK (k := 1) (v := .slice none 0 0) hz rfl; have s2 := cell_rowK (k := 2) (v := .slice none 0 0) hz rfl; have f0 := frozen_rowK (j := 0) hz; have f1 := frozen_rowK (j := 1) hz; have f2 := frozen_rowK (j := 2) hz; clear hS hz hkt hne h3 h4)
              | (go_at_call 9; refine K0.out.mono ?_; rintro e w2 ⟨A3, n3, c3, A4, n4, c4, x', rfl, h3, h4, hS, hkt⟩; have HS := Lib.hid (And.intro hS (And.intro hkt (And.intro h3 h4))); clear hS hkt h3 h4))
            all_goals (
              go_wp2_with fail
              go_meet
              case rel => first
                | exact ⟨_, x', A3, n3, c3, A4, n4, c4, rfl, HS.out.1.told HS.out.2.1 hww (only_three _ _ _ _ _), (only_three _ _ _ _ _).blk HS.out.2.2.1 (fun e => HS.out.2.2.2.1 e.symm), set3 HS.out.2.1 _ _ _, (by obtain ⟨bF, h⟩ := HS.out.2.2.2.2.1; exact ⟨bF, row_told h HS.out.2.1 (by decide) (only_three _ _ _ _ _)⟩), (by obtain ⟨bF, h⟩ := HS.out.2.2.2.2.2; exact ⟨bF, row_told h HS.out.2.1 (by decide) (only_three _ _ _ _ _)⟩)⟩
                | exact ⟨_, x', A3, n3, c3, A4, n4, c4, rfl, HS.out.1.below (below_alloc (Below.refl _ _) _), blkK HS.out.2.1 (below_alloc (Below.refl _ _) _), World.alloc_heap_new w2 _, (by obtain ⟨bF, h⟩ := HS.out.2.2.1; exact ⟨bF, h.of_below (below_alloc (Below.refl _ _) _)⟩), (by obtain ⟨bF, h⟩ := HS.out.2.2.2; exact ⟨bF, h.of_below (below_alloc (Below.refl _ _) _)⟩)⟩)
          case rest =>
            obtain ⟨ku, x', A3, n3, c3, A4, n4, c4, rfl, hM2⟩ := hcut
            have hfew : (G.P p).length ≤ 64 := (HGI.out.sys.brd p hp2).few
            have hdf := doneB_facts (came := G.came p) ⟨pl, wh, ⟨a, k, pp⟩, ⟨ck, cp⟩⟩ hfew (HGI.out.right p hp2)
            rw [HD.out] at hdf
            have HDF := Lib.hid hdf
            have HM2 := Lib.hid hM2
            have KS : Hid (Calls Tryz.prog 10 #[.agg #[.int .i64 D.e, .slice A1 n1 c1, .slice A2 n2 c2'], .agg #[.int .i64 D.e, .slice A3 n3 c3, .slice A4 n4 c4]] _ fun e w' => e = .returned (.bool true) ∧ Below wc.heap.size _ w') := Lib.hid (by
              obtain ⟨bF, h3⟩ := hM2.row3
              obtain ⟨bW, h4⟩ := hM2.row4
              exact same_calls D.e (hM2.sys.pendF (by simp)) (hM2.sys.pendW (by simp)) h3 h4 hdf.2.1 hdf.1)
            have s0 := cell_rowK (k := 0) hM2.blk rfl
            have s1 := cell_rowK (k := 1) hM2.blk rfl
            have s2 := cell_rowK (k := 2) hM2.blk rfl
            have u0 := cell_rowK (k := 0) hM2.blk2 rfl
            have u1 := cell_rowK (k := 1) hM2.blk2 rfl
            have u2 := cell_rowK (k := 2) hM2.blk2 rfl
            clear hfew hdf hM2 HM HP HXB p0 p1 p2 p3 p4 p5 p6 xB
            go_wp2_with fail
            refine KS.out.mono ?_
            rintro e w7 ⟨rfl, hB⟩
            have HS7 := Lib.hid (HM2.out.sys.below hB)
            have HT7 := Lib.hid (blkK HM2.out.blk hB)
            have KF := Lib.hid (addF_calls HG.out HS7.out HGI.out.lf)
            have t1 : w7.cell? ⟨kt, 1, none⟩ = some (.slice A1 n1 c1) := cell_rowK HT7.out rfl
            clear hB KS s0 s1 s2 u0 u1 u2 HM2
            go_wp2_with fail
            refine KF.out.mono ?_
            rintro e w8 ⟨rfl, LF', vF', hS8, hlf, hin, ho⟩
            have HT8 := Lib.hid (HS7.out.keptAF ho HT7.out (by decide) (by decide))
            have HS8 := Lib.hid hS8
            have HLF : Hid (LF'.length ≤ 600 ∧ ∀ y ∈ LF', y.2.length ≤ 64) := Lib.hid ⟨hlf, fun y hy => by
              rcases hin y hy with h | h
              · exact HGI.out.sf y h
              · rw [h]; exact HDF.out.2.1⟩
            have KA := Lib.hid (addW_calls HG.out HS8.out HGI.out.lw)
            have t2 : w8.cell? ⟨kt, 2, none⟩ = some (.slice A2 n2 c2') := cell_rowK HT8.out rfl
            clear hS8 hlf hin ho KF t1 HS7 HT7
            go_wp2_with fail
            refine KA.out.mono ?_
            rintro e w9 ⟨rfl, LW', vW', hS9, hlw, hin, ho⟩
            have HNX : Hid (∃ G, CallsI w W7 c b r (aB + 1) aA aB G (i + 1).toNat w9) := Lib.hid ⟨⟨upd G.P p D.left, upd G.came p D.came, upd G.x p x', LW', LF', vW', vF'⟩, by
              refine ⟨?_, fun s hs => ?_, fun s hs => ?_, hlw, HLF.out.1, fun y hy => ?_, HLF.out.2⟩
              · have h1 := hS9
                rw [upd_map] at h1
                exact h1
              · show upd G.came p D.came s ≤ _
                have h1 := HGI.out.came s hs
                by_cases e1 : s = p
                · subst e1; rw [upd_same]; have := HDF.out.2.2.2; omega
                · rw [upd_other _ _ e1]; omega
              · show ∀ z ∈ upd G.P p D.left s, _
                by_cases e1 : s = p
                · subst e1; rw [upd_same]; exact HDF.out.2.2.1
                · rw [upd_other _ _ e1]; exact HGI.out.right s hs
              · rcases hin y hy with h | h
                · exact HGI.out.sw y h
                · rw [h]; exact HDF.out.1⟩
            clear hS9 hlw hin ho KA t2 HS8 HT8 HLF
            go_wp2
            go_roundw
            case measure => simp [intOf]; omega
            case rel => exact ⟨i + 1, rfl, by omega, by omega, HNX⟩
  · have q2 : decide (i < (N : Int)) = false := decide_eq_false c2
    have HF0 : Hid (∃ G, CallsI w W7 c b r (aB + 1) aA aB G i.toNat wr) := Lib.hid ⟨G, HGI.out⟩
    have hiN : i = N := by omega
    clear HGI
    go_wp2_with fail
    go_loopw [11] (fun vi wr => ∃ p : Nat, vi = .int .i64 (p : Int) ∧ p ≤ 2 ∧ Hid (∃ G, CallsI w W7 c b r (aB + 1) aA aB G i.toNat wr)) (fun vi _ => (2 - intOf vi).toNat)
    case atStart => exact ⟨0, rfl, by omega, HF0⟩
    case round =>
    clear HF0
    obtain ⟨p, rfl, hp2, HI⟩ := hrel
    obtain ⟨G, hGI⟩ := HI.out
    have HGI := Lib.hid hGI
    clear hGI HI
    by_cases c3 : p < 2
    · have q3 : decide ((p : Int) < 2) = true := decide_eq_true (by omega)
      have hpin : ((p : Int) < 2) = True := eq_true (by omega)
      have hp0 : ((0 : Int) ≤ (p : Int)) = True := eq_true (by omega)
      have ptrA : ∀ V : World, (V.heap[aA]? = some (.cells #[.pointer (some ⟨c 0, 0, none⟩), .pointer (some ⟨c 1, 0, none⟩)] 27 (0, 0))) → V.cell? ⟨aA, p, none⟩ = some (.pointer (some ⟨c p, 0, none⟩)) := fun V h => by
        rcases two_cases c3 with rfl | rfl
        · exact cell_rowK h rfl
        · exact cell_rowK h rfl
      have ptrB : ∀ V : World, (V.heap[aB]? = some (.cells #[.pointer (some ⟨r 0, 0, none⟩), .pointer (some ⟨r 1, 0, none⟩)] 30 (0, 0))) → V.cell? ⟨aB, p, none⟩ = some (.pointer (some ⟨r p, 0, none⟩)) := fun V h => by
        rcases two_cases c3 with rfl | rfl
        · exact cell_rowK h rfl
        · exact cell_rowK h rfl
      have HPT := Lib.hid (And.intro ptrA ptrB)
      have hfew : (G.P p).length ≤ 64 := (HGI.out.sys.brd p c3).few
      have hcb : G.came p < 4611686018427387904 := by have := HGI.out.came p c3; omega
      have xA := ptrA _ HGI.out.sys.arrA
      have KA := Lib.hid (all_calls (HGI.out.sys.brd p c3) hcb)
      have HFW := Lib.hid hfew
      clear ptrA ptrB hfew
      go_wp2_with fail
      refine KA.out.mono ?_
      rintro e w3' ⟨v1, rfl, hown, hB⟩
      have hr1 : Row encW 3 wr.heap.size 57 w3' v1 ((G.P p).map Prod.fst) := by unfold Row; rw [List.length_map]; exact hown
      obtain ⟨A1, d1, hv1, hd1⟩ := Bag.Row.slice hr1
      obtain ⟨n, hlen⟩ : ∃ n, ((G.P p).map Prod.fst).length = n := ⟨_, rfl⟩
      have HLEN := Lib.hid hlen
      rw [hlen] at hv1
      subst hv1
      clear hlen
      have HS1 := Lib.hid (HGI.out.sys.told_all HG.out c3 hB hr1)
      have KB := Lib.hid (all_calls (HS1.out.brd p c3) hcb)
      have xB := HPT.out.1 _ HS1.out.arrA
      clear hown hB hr1 hd1 KA xA
      go_wp2_with fail
      refine KB.out.mono ?_
      rintro e w4' ⟨v2, rfl, hown, hB⟩
      have hr2 : Row encW 3 w3'.heap.size 57 w4' v2 ((G.P p).map Prod.fst) := by unfold Row; rw [List.length_map]; exact hown
      obtain ⟨A2, d2, hv2, hd2⟩ := Bag.Row.slice hr2
      rw [HLEN.out] at hv2
      subst hv2
      have HS2 := Lib.hid (HS1.out.told_all HG.out c3 hB hr2)
      have KR2 := Lib.hid (rAll_calls (HS2.out.refI HG.out c3 (by rw [List.length_map]; exact HFW.out)))
      have xR := HPT.out.2 _ HS2.out.arrB
      clear hown hB hr2 hd2 KB xB HS1
      go_wp2_with fail
      refine KR2.out.mono ?_
      rintro e w5' ⟨v3, rfl, hr3, hB⟩
      have HS3 := Lib.hid (HS2.out.below hB)
      obtain ⟨T, hTL⟩ : ∃ t, (G.P p).map Prod.fst = t := ⟨_, rfl⟩
      have hT64 : T.length ≤ 64 := by rw [← hTL, List.length_map]; exact HFW.out
      have hr3 : Row encW 3 w4'.heap.size 57 w5' v3 ((G.P p).map Prod.fst) := hr3
      have hn : T.length = n := by rw [← hTL]; exact HLEN.out
      rw [hTL] at HS3 hr3
      obtain ⟨A1', d1', e1, hd1, hC1⟩ := row_CW (HS3.out.pendW (v := .slice A1 n d1) (T := T) (by simp))
      obtain ⟨A2', d2', e2, hd2, hC2⟩ := row_CW (HS3.out.pendW (v := .slice A2 n d2) (T := T) (by simp))
      obtain ⟨A3, d3, hv3, hd3, hC3⟩ := row_CW hr3
      rw [hn] at hv3
      subst hv3
      simp only [Value.slice.injEq] at e1 e2
      obtain ⟨rfl, -, rfl⟩ := e1
      obtain ⟨rfl, -, rfl⟩ := e2
      have HC3 := Lib.hid (And.intro hC2 hC3)
      have KE := Pr.lagoonref00_EqWatches.calls 65 A1 d1 T A3 d3 T true w5' hC1 hd1 hC3 hd3 (eqWatches_fk T 65 (by omega) (by omega))
      have HN1 := Lib.hid hn
      rw [hn] at KE hd1 hd2 hd3 hT64
      have KE := Lib.hid KE
      clear hB hr3 hTL hC1 hC2 hC3 KR2 xR HS2 hn HLEN
      go_wp2_with fail
      refine KE.out.mono ?_
      rintro e w6' ⟨rfl, hB'⟩
      have hB : Below w5'.heap.size w5' w6' := by first | exact hB' | exact hB'.below
      have HS4 := Lib.hid (HS3.out.below hB)
      have KE2 := Pr.lagoonref00_EqWatches.calls 65 A2 d2 T A3 d3 T true w6' (Kd.C_below HC3.out.1 hB) (by rw [HN1.out]; exact hd2) (Kd.C_below HC3.out.2 hB) (by rw [HN1.out]; exact hd3) (eqWatches_fk T 65 (by rw [HN1.out]; omega) (by rw [HN1.out]; omega))
      rw [HN1.out] at KE2
      have KE2 := Lib.hid KE2
      clear hB hB' KE HS3 HC3
      go_wp2_with fail
      refine KE2.out.mono ?_
      rintro e w7' ⟨rfl, hB'⟩
      have hB : Below w6'.heap.size w6' w7' := by first | exact hB' | exact hB'.below
      have HS5 := Lib.hid (HS4.out.below hB)
      have KW1 := Lib.hid (addW_calls (T := T) (pw := [(.slice A2 n d2, T)]) HG.out HS5.out HGI.out.lw)
      clear hB hB' KE2 HS4
      go_wp2_with fail
      refine KW1.out.mono ?_
      rintro e w8' ⟨rfl, LW1, vW1, hS6, hl1, hin1, ho1⟩
      have HS6 := Lib.hid (And.intro hS6 (And.intro hl1 hin1))
      have KW2 := Lib.hid (addW_calls (T := T) (pw := []) HG.out HS6.out.1 hl1)
      clear hS6 hl1 hin1 ho1 KW1 HS5
      go_wp2_with fail
      refine KW2.out.mono ?_
      rintro e w9' ⟨rfl, LW2, vW2, hS7, hl2, hin2, ho2⟩
      have HNX : Hid (∃ G, CallsI w W7 c b r (aB + 1) aA aB G i.toNat w9') := Lib.hid ⟨⟨G.P, G.came, G.x, LW2, G.LF, vW2, G.vF⟩, hS7, HGI.out.came, HGI.out.right, hl2, HGI.out.lf, fun y hy => by
        rcases hin2 y hy with h | h
        · rcases HS6.out.2.2 y h with h | h
          · exact HGI.out.sw y h
          · rw [h]; show T.length ≤ 64; rw [HN1.out]; exact hT64
        · rw [h]; show T.length ≤ 64; rw [HN1.out]; exact hT64, HGI.out.sf⟩
      clear hS7 hl2 hin2 ho2 KW2 HS6
      go_wp2
      go_roundw
      case measure => simp [intOf]; omega
      case rel => exact ⟨p + 1, by push_cast; rfl, by omega, HNX⟩
    · have q3 : decide ((p : Int) < 2) = false := decide_eq_false (by omega)
      have KP := Lib.hid (bag_apart HGI.out.sys HGI.out.lw HGI.out.lf HGI.out.sw HGI.out.sf)
      have hc0' : G.came 0 < 4611686018427387904 := by have := HGI.out.came 0 (by omega); omega
      have hc1' : G.came 1 < 4611686018427387904 := by have := HGI.out.came 1 (by omega); omega
      have HFEW : Hid (∀ s, s < 2 → (G.P s).length ≤ 64) := Lib.hid (fun s hs => (HGI.out.sys.brd s hs).few)
      go_wp2_with fail
      refine KP.out.mono ?_
      rintro e w3' ⟨rfl, ho⟩
      have HF3 := Lib.hid (HGI.out.sys.fin HG.out ho)
      have KA := Lib.hid (all_calls (HF3.out.brd 0 (by omega)) hc0')
      have xA : w3'.cell? ⟨aA, 0, none⟩ = some (.pointer (some ⟨c 0, 0, none⟩)) := cell_rowK HF3.out.arrA rfl
      clear ho KP
      go_wp2_with fail
      refine KA.out.mono ?_
      rintro e w4' ⟨v1, rfl, hown, hB⟩
      have hr1 : Row encW 3 w3'.heap.size 57 w4' v1 ((G.P 0).map Prod.fst) := by unfold Row; rw [List.length_map]; exact hown
      obtain ⟨A1, d1, hv1, hd1, hC1⟩ := row_CW hr1
      have HF4 := Lib.hid (HF3.out.below hB)
      have HC1 := Lib.hid hC1
      obtain ⟨T0, hT0⟩ : ∃ t, (G.P 0).map Prod.fst = t := ⟨_, rfl⟩
      obtain ⟨T1, hT1⟩ : ∃ t, (G.P 1).map Prod.fst = t := ⟨_, rfl⟩
      have h064 : T0.length ≤ 64 := by rw [← hT0, List.length_map]; exact HFEW.out 0 (by omega)
      have h164 : T1.length ≤ 64 := by rw [← hT1, List.length_map]; exact HFEW.out 1 (by omega)
      have HT0 := Lib.hid hT0
      have HT1 := Lib.hid hT1
      rw [hT0] at hv1 hd1 HC1
      have KA := Lib.hid (all_calls (HF4.out.brd 1 (by omega)) hc1')
      have xA1 : w4'.cell? ⟨aA, 1, none⟩ = some (.pointer (some ⟨c 1, 0, none⟩)) := cell_rowK HF4.out.arrA rfl
      obtain ⟨n0, hn0⟩ : ∃ n, T0.length = n := ⟨_, rfl⟩
      have HN0 := Lib.hid hn0
      rw [hn0] at hv1 hd1 h064 HC1
      subst hv1
      clear hown hB hr1 hC1 xA HF3 hT0 hT1 hn0
      go_wp2_with fail
      refine KA.out.mono ?_
      rintro e w5' ⟨v2, rfl, hown, hB⟩
      have hr2 : Row encW 3 w4'.heap.size 57 w5' v2 ((G.P 1).map Prod.fst) := by unfold Row; rw [List.length_map]; exact hown
      obtain ⟨A2, d2, hv2, hd2, hC2⟩ := row_CW hr2
      have HF5 := Lib.hid (HF4.out.below hB)
      have HC2 := Lib.hid (And.intro (Kd.C_below HC1.out hB) hC2)
      rw [HT1.out] at hv2 hd2 HC2
      obtain ⟨n1, hn1⟩ : ∃ n, T1.length = n := ⟨_, rfl⟩
      have HN1 := Lib.hid hn1
      rw [hn1] at hv2 hd2 h164 HC2
      subst hv2
      have KR0 := rAll_calls (HF5.out.ref 0 (by omega))
      rw [HT0.out] at KR0
      have KR0 := Lib.hid KR0
      have xB : w5'.cell? ⟨aB, 0, none⟩ = some (.pointer (some ⟨r 0, 0, none⟩)) := cell_rowK HF5.out.arrB rfl
      clear hown hB hr2 hC2 xA1 HF4 HC1 KA hn1
      go_wp2_with fail
      refine KR0.out.mono ?_
      rintro e w6' ⟨v3, rfl, hr3, hB⟩
      obtain ⟨A3, d3, hv3, hd3, hC3⟩ := row_CW hr3
      rw [HN0.out] at hv3 hd3 hC3
      subst hv3
      have HF6 := Lib.hid (HF5.out.below hB)
      have KE := Pr.lagoonref00_EqWatches.calls 65 A1 d1 T0 A3 d3 T0 true w6' (by rw [HN0.out]; exact Kd.C_below HC2.out.1 hB) (by rw [HN0.out]; exact hd1) (by rw [HN0.out]; exact hC3) (by rw [HN0.out]; exact hd3) (eqWatches_fk T0 65 (by rw [HN0.out]; omega) (by rw [HN0.out]; omega))
      rw [HN0.out] at KE
      have KE := Lib.hid KE
      have HC3 := Lib.hid (Kd.C_below HC2.out.2 hB)
      clear hr3 hB hC3 KR0 xB HF5 HC2
      go_wp2_with fail
      refine KE.out.mono ?_
      rintro e w7' ⟨rfl, hB'⟩
      have hB : Below w6'.heap.size w6' w7' := by first | exact hB' | exact hB'.below
      have HF7 := Lib.hid (HF6.out.below hB)
      have HC4 := Lib.hid (Kd.C_below HC3.out hB)
      have KR1 := rAll_calls (HF7.out.ref 1 (by omega))
      rw [HT1.out] at KR1
      have KR1 := Lib.hid KR1
      have xB : w7'.cell? ⟨aB, 1, none⟩ = some (.pointer (some ⟨r 1, 0, none⟩)) := cell_rowK HF7.out.arrB rfl
      clear hB hB' KE HF6 HC3
      go_wp2_with fail
      refine KR1.out.mono ?_
      rintro e w8' ⟨v4, rfl, hr4, hB⟩
      obtain ⟨A4, d4, hv4, hd4, hC4⟩ := row_CW hr4
      rw [HN1.out] at hv4 hd4 hC4
      subst hv4
      have HF8 := Lib.hid (HF7.out.below hB)
      have KE := Pr.lagoonref00_EqWatches.calls 65 A2 d2 T1 A4 d4 T1 true w8' (by rw [HN1.out]; exact Kd.C_below HC4.out hB) (by rw [HN1.out]; exact hd2) (by rw [HN1.out]; exact hC4) (by rw [HN1.out]; exact hd4) (eqWatches_fk T1 65 (by rw [HN1.out]; omega) (by rw [HN1.out]; omega))
      rw [HN1.out] at KE
      have KE := Lib.hid KE
      clear hr4 hB hC4 KR1 xB HF7 HC4
      go_wp2_with fail
      refine KE.out.mono ?_
      rintro e w9' ⟨rfl, hB'⟩
      have hB : Below w8'.heap.size w8' w9' := by first | exact hB' | exact hB'.below
      have HBF := Lib.hid (below_step HF8.out.bel hB)
      clear hB hB' KE HF8
      go_wp2
      go_ret
      exact ⟨rfl, HBF.out⟩
end Go.Proofs.YtkhnjckkjdldbaaGreatDoor.Q
