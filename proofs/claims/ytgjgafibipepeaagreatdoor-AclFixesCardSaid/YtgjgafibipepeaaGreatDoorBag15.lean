import Derived.Test.YtgjgafibipepeaaGreatDoorBagB
namespace Go.Proofs.YtgjgafibipepeaaGreatDoor.Bag
open Go.RowKit Go.Proofs.YtgjgafibipepeaaGreatDoorW.PrintWords Go.Deep Go.Maps Go.WideShapes Go.Lib
open Go.Proofs.YtgjgafibipepeaaGreatDoor.Pr (S39 S41 k39 k41 z39 z41 info39 info41)
open Go.Proofs.YtgjgafibipepeaaGreatDoor.Q
set_option linter.unusedVariables false
set_option linter.unusedSimpArgs false
attribute [local go_sem] Oper.semAt_some
/-! ACLFIXES, FROM REGION 16 ON (printed by mkfix.py) -/
/-- does code begin with a region? -/
def startsR (id : Nat) : Code → Bool
  | .region j _ _ => Nat.beq j id
  | .seq a _ => startsR id a
  | _ => false
/-- what is left of a body behind a region -/
def afterR (id : Nat) : Code → Code
  | .seq a b => match startsR id a with
    | true => b
    | false => afterR id b
  | c => c
noncomputable def rest16 : Code := afterR 14 (Tryz.f4.body.getD .skip)
set_option maxRecDepth 1000000 in
set_option maxHeartbeats 16000000 in
theorem fix_r16 (A1 : Option Addr) (c1 g cap gi capi N : Nat) (l : List S41) (who : List S39) (F Fo : List S41) (vr va vb vo vc vq : Value) (w wA : World)
    (HR1 : Hid (Kd.C k39 w A1 who.length who)) (hc1 : who.length ≤ c1) (HE : Hid (Env w)) (HBA : Hid (Below w.heap.size w wA))
    (HGA : Hid (BagE w wA (((.slice (some ⟨g, 0, none⟩) N cap, l) :: [(vr, F), (va, F), (vb, F), (vo, Fo), (vc, F), (vq, Fo)]).map fun x => start x.1 x.2)))
    (HIA : Hid (Row encI 2 w.heap.size 39 wA (.slice (some ⟨gi, 0, none⟩) who.length capi) who)) (hN : l.length = N) (hcap : N ≤ cap) (hF : F.length ≤ 4) (hFo : Fo.length ≤ 4) (hNl : N < 2147483648) (hw : who.length < 2147483648)
    (HSL : Hid (∀ x ∈ l, smE x)) (HSW : Hid (∀ x ∈ who, smI x)) (u0 u2 u3 u4 u5 u8 u9 u11 u13 u15 u17 u18 u19 u20 u21 u22 u23 u24 u25 u26 u27 u28 u29 u30 u31 u32 u33 u34 u35 u36 u37 u38 u39 u40 u41 u42 u43 u44 u45 u46 u47 u48 u49 u50 u51 u52 u53 u54 u55 u56 u57 u58 u59 u60 u61 u62 u63 u64 u65 u66 u67 u68 u69 u70 u71 u72 u73 u74 u75 u76 u77 u78 u79 u80 u81 u82 u83 u84 u85 u86 u87 u88 u89 u90 u91 u92 u93 u94 u95 u96 u97 u98 u99 u100 u101 u102 u103 u104 u105 u106 u107 u108 u109 u110 u111 u112 u113 u114 u115 u116 u117 u118 u119 u120 u121 u122 u123 u124 u125 u126 u127 u128 u129 u130 u131 u133 u134 u135 u136 u137 u138 u139 u140 u141 u142 u143 u144 u145 u146 u147 u148 u149 u150 u151 u152 u153 u154 u155 u156 u157 u158 u159 u160 u161 u162 u163 u164 u165 u166 u167 u168 u169 u170 u171 u172 u173 u174 u175 u176 u177 u178 u179 u180 u181 u182 u183 u184 u185 u186 u187 u188 u189 u190 u191 u192 u193 u194 u195 u196 u197 u198 u199 u200 u201 u202 : Value) :
    Code.wp Tryz.prog rest16 (bodyPost Tryz.prog Tryz.f4 (fun e w' => e = .returned (.bool true) ∧ Below w.heap.size w w')) ⟨List.toArray (u0 :: .slice A1 who.length c1 :: u2 :: u3 :: u4 :: u5 :: .slice (some ⟨g, 0, none⟩) N cap :: .slice (some ⟨gi, 0, none⟩) who.length capi :: u8 :: u9 :: va :: u11 :: vb :: u13 :: vo :: u15 :: vc :: u17 :: u18 :: u19 :: u20 :: u21 :: u22 :: u23 :: u24 :: u25 :: u26 :: u27 :: u28 :: u29 :: u30 :: u31 :: u32 :: u33 :: u34 :: u35 :: u36 :: u37 :: u38 :: u39 :: u40 :: u41 :: u42 :: u43 :: u44 :: u45 :: u46 :: u47 :: u48 :: u49 :: u50 :: u51 :: u52 :: u53 :: u54 :: u55 :: u56 :: u57 :: u58 :: u59 :: u60 :: u61 :: u62 :: u63 :: u64 :: u65 :: u66 :: u67 :: u68 :: u69 :: u70 :: u71 :: u72 :: u73 :: u74 :: u75 :: u76 :: u77 :: u78 :: u79 :: u80 :: u81 :: u82 :: u83 :: u84 :: u85 :: u86 :: u87 :: u88 :: u89 :: u90 :: u91 :: u92 :: u93 :: u94 :: u95 :: u96 :: u97 :: u98 :: u99 :: u100 :: u101 :: u102 :: u103 :: u104 :: u105 :: u106 :: u107 :: u108 :: u109 :: u110 :: u111 :: u112 :: u113 :: u114 :: u115 :: u116 :: u117 :: u118 :: u119 :: u120 :: u121 :: u122 :: u123 :: u124 :: u125 :: u126 :: u127 :: u128 :: u129 :: u130 :: u131 :: .bool false :: u133 :: u134 :: u135 :: u136 :: u137 :: u138 :: u139 :: u140 :: u141 :: u142 :: u143 :: u144 :: u145 :: u146 :: u147 :: u148 :: u149 :: u150 :: u151 :: u152 :: u153 :: u154 :: u155 :: u156 :: u157 :: u158 :: u159 :: u160 :: u161 :: u162 :: u163 :: u164 :: u165 :: u166 :: u167 :: u168 :: u169 :: u170 :: u171 :: u172 :: u173 :: u174 :: u175 :: u176 :: u177 :: u178 :: u179 :: u180 :: u181 :: u182 :: u183 :: u184 :: u185 :: u186 :: u187 :: u188 :: u189 :: u190 :: u191 :: u192 :: u193 :: u194 :: u195 :: u196 :: u197 :: u198 :: u199 :: u200 :: u201 :: u202 :: []), []⟩ wA := by
  conv => arg 2; whnf
  go_wp2_with fail
  go_loopw [20] (fun vi wr => ∃ x : Int, vi = .int .i64 x ∧ 0 ≤ x ∧ x ≤ (N : Int) ∧ Hid (∃ l' : List S41, l'.length = N ∧ (∀ y ∈ l', smE y) ∧ BagE w wr (((.slice (some ⟨g, 0, none⟩) N cap, l') :: [(vr, F), (va, F), (vb, F), (vo, Fo), (vc, F), (vq, Fo)]).map fun x => start x.1 x.2)) ∧ Hid (Row encI 2 w.heap.size 39 wr (.slice (some ⟨gi, 0, none⟩) who.length capi) who) ∧ Hid (Below w.heap.size w wr)) (fun vi _ => ((N : Int) - intOf vi).toNat)
  case atStart => exact ⟨0, rfl, by omega, by omega, Lib.hid ⟨l, hN, HSL.out, HGA.out⟩, HIA, HBA⟩
  case round =>
  clear HGA HIA HBA
  obtain ⟨x, rfl, x0, xn, HM, HI, HB⟩ := hrel
  by_cases c2 : x < (N : Int)
  · have q2 : decide (x < (N : Int)) = true := decide_eq_true c2
    have HPUT : Hid (∃ a, wr.cell? ⟨g, x.toNat * 3, none⟩ = some (.int .i8 a) ∧ wr.frozen? ⟨g, x.toNat * 3, none⟩ = false ∧ ∀ p : Int, (∃ l' : List S41, l'.length = N ∧ (∀ y ∈ l', smE y) ∧ BagE w (wr.setCell ⟨g, x.toNat * 3, none⟩ (.int .i8 p)) (((.slice (some ⟨g, 0, none⟩) N cap, l') :: [(vr, F), (va, F), (vb, F), (vo, Fo), (vc, F), (vq, Fo)]).map fun x => start x.1 x.2)) ∧
        Row encI 2 w.heap.size 39 (wr.setCell ⟨g, x.toNat * 3, none⟩ (.int .i8 p)) (.slice (some ⟨gi, 0, none⟩) who.length capi) who ∧ Below w.heap.size w (wr.setCell ⟨g, x.toNat * 3, none⟩ (.int .i8 p))) := Lib.hid (by
      obtain ⟨l', rfl, hs', hG⟩ := HM.out
      have hr : Row encE 3 w.heap.size 41 wr (.slice (some ⟨g, 0, none⟩) l'.length cap) l' := BagI.row hG (j := 0) rfl
      obtain ⟨h1, h2, h3⟩ := flip_row hr x0 c2
      refine ⟨_, h1, h2, fun p => ?_⟩
      obtain ⟨h4, h5⟩ := h3 p
      have hg0 : w.heap.size ≤ g := (hr.lt (b := g) rfl).1
      have hk : KeptBut 41 wr (wr.setCell ⟨g, x.toNat * 3, none⟩ (.int .i8 p)) := by
        rcases hr.shape with ⟨h6, _⟩ | ⟨g', cap', h6, _, _, cs, h7⟩
        · cases h6
        · cases h6
          exact KeptBut.grown h7 h5
      refine ⟨⟨_, ?_, fun y hy => ?_, BagI.put0 hG (g := g) rfl h4 h5⟩, HI.out.keptBut hk (by decide), HB.out.setCell (p := ⟨g, x.toNat * 3, none⟩) hg0 _⟩
      · rw [List.length_set]
      · rcases List.mem_or_eq_of_mem_set hy with h | h
        · exact hs' y h
        · subst h
          exact hs' (l'[x.toNat]'(by omega)) (List.getElem_mem _))
    obtain ⟨a, o1, f1, hp⟩ := HPUT.out
    have HP := Lib.hid hp
    have x0' := eq_true x0
    have c2' := eq_true c2
    clear hp HPUT HM HI HB
    go_wp2_with fail
    exact ⟨⟨x + 1, rfl, by omega, by omega, Lib.hid (HP.out _).1, Lib.hid (HP.out _).2.1, Lib.hid (HP.out _).2.2⟩, by simp [intOf]; omega⟩
  · have q2 : decide (x < (N : Int)) = false := decide_eq_false c2
    obtain ⟨l', hn', hs', hG⟩ := HM.out
    obtain ⟨F2, z2, hb2⟩ := fix_both l' who hs' HSW.out (by omega) (by omega)
    have HF2 := Lib.hid hb2
    have HG := Lib.hid hG
    have HN2 := Lib.hid (And.intro hn' hs')
    have HE1 := Lib.hid (HE.out.below HB.out)
    have KC := Lib.hid (copyRow_calls (BagI.row hG (j := 0) rfl) (by omega))
    clear hn' hs' hG hb2 HM
    go_wp2_with fail
    refine KC.out.mono ?_
    rintro e w20 ⟨vt, rfl, hr, hB⟩
    have HG20 : Hid (BagE w w20 (((.slice (some ⟨g, 0, none⟩) N cap, l') :: [(vr, F), (va, F), (vb, F), (vo, Fo), (vc, F), (vq, Fo), (vt, l')]).map fun x => start x.1 x.2)) := Lib.hid (BagI.more HG.out hB HB.out.size hr)
    have HI20 : Hid (Row encI 2 w.heap.size 39 w20 (.slice (some ⟨gi, 0, none⟩) who.length capi) who) := Lib.hid (own_below HI.out hB)
    have HB20 := Lib.hid (below_step HB.out hB)
    have KC := Lib.hid (HF2.out.ownRow (BagI.row HG20.out (j := 0) rfl) HI20.out (HE.out.below HB20.out))
    clear hr hB HG HI HB HE1
    go_wp2_with fail
    refine KC.out.mono ?_
    rintro e w21 ⟨vd, rfl, hr, hB⟩
    have HG21 : Hid (BagE w w21 (((.slice (some ⟨g, 0, none⟩) N cap, l') :: [(vr, F), (va, F), (vb, F), (vo, Fo), (vc, F), (vq, Fo), (vt, l'), (vd, F2)]).map fun x => start x.1 x.2)) := Lib.hid (BagI.more HG20.out hB HB20.out.size hr)
    have HI21 : Hid (Row encI 2 w.heap.size 39 w21 (.slice (some ⟨gi, 0, none⟩) who.length capi) who) := Lib.hid (own_below HI20.out hB)
    have HB21 := Lib.hid (below_step HB20.out hB)
    have KC := Lib.hid (HF2.out.refRow (BagI.row HG21.out (j := 7) rfl) (Kd.C_below HR1.out HB21.out) hc1)
    clear hr hB HG20 HI20 HB20
    go_wp2_with fail
    refine KC.out.mono ?_
    rintro e w22 ⟨vw, rfl, hr, hB⟩
    have HG22 : Hid (BagE w w22 (((.slice (some ⟨g, 0, none⟩) N cap, l') :: [(vr, F), (va, F), (vb, F), (vo, Fo), (vc, F), (vq, Fo), (vt, l'), (vd, F2), (vw, F2)]).map fun x => start x.1 x.2)) := Lib.hid (BagI.more HG21.out hB HB21.out.size hr)
    have HI22 : Hid (Row encI 2 w.heap.size 39 w22 (.slice (some ⟨gi, 0, none⟩) who.length capi) who) := Lib.hid (own_below HI21.out hB)
    have HB22 := Lib.hid (below_step HB21.out hB)
    have KC := Lib.hid (eqRows_calls (BagI.row HG22.out (j := 8) rfl) (BagI.row HG22.out (j := 9) rfl) (by have := HF2.out.small; omega))
    clear hr hB HG21 HI21 HB21
    go_wp2_with fail
    refine KC.out.mono ?_
    rintro e w23 ⟨rfl, hB⟩
    have HG23 : Hid (BagE w w23 (((.slice (some ⟨g, 0, none⟩) N cap, l') :: [(vr, F), (va, F), (vb, F), (vo, Fo), (vc, F), (vq, Fo), (vt, l'), (vd, F2), (vw, F2)]).map fun x => start x.1 x.2)) := Lib.hid (BagI.below HG22.out hB)
    have HI23 : Hid (Row encI 2 w.heap.size 39 w23 (.slice (some ⟨gi, 0, none⟩) who.length capi) who) := Lib.hid (own_below HI22.out hB)
    have HB23 := Lib.hid (below_step HB22.out hB)
    have KC := Lib.hid (eqRows_calls (BagI.row HG23.out (j := 0) rfl) (BagI.row HG23.out (j := 7) rfl) (by have := HN2.out.1; omega))
    clear hB HG22 HI22 HB22
    go_wp2_with fail
    refine KC.out.mono ?_
    rintro e w24 ⟨rfl, hB⟩
    have HG24 : Hid (BagE w w24 (((.slice (some ⟨g, 0, none⟩) N cap, l') :: [(vr, F), (va, F), (vb, F), (vo, Fo), (vc, F), (vq, Fo), (vt, l'), (vd, F2), (vw, F2)]).map fun x => start x.1 x.2)) := Lib.hid (BagI.below HG23.out hB)
    have HI24 : Hid (Row encI 2 w.heap.size 39 w24 (.slice (some ⟨gi, 0, none⟩) who.length capi) who) := Lib.hid (own_below HI23.out hB)
    have HB24 := Lib.hid (below_step HB23.out hB)
    have HK : Hid (Keep w w24.heap.size [] [] ((.slice (some ⟨g, 0, none⟩) N cap, l') :: [(vr, F), (va, F), (vb, F), (vo, Fo), (vc, F), (vq, Fo), (vt, l'), (vd, F2), (vw, F2)]) (.slice (some ⟨gi, 0, none⟩) who.length capi) who (w24.alloc (.cells (bagCells (.slice none 0 0) (.slice none 0 0)) 65))) := Lib.hid (by
      have hBa : Below w24.heap.size w24 (w24.alloc (.cells (bagCells (.slice none 0 0) (.slice none 0 0)) 65)) := below_alloc (Below.refl _ _) _
      exact Keep.empty (World.alloc_heap_new w24 _) HB24.out.size (below_step HB24.out hBa) hBa HG24.out HI24.out)
    clear hB HG23 HI23 HB23 HG24 HI24 HB24 KC
    have KC := Lib.hid (HK.out.addE (k := 2) rfl (List.forall_mem_nil _) (by simp))
    go_wp2_with fail
    refine KC.out.mono ?_
    rintro e w25 ⟨rfl, hK⟩
    have HK : Hid (Keep w w24.heap.size [] [(va, F)] ((.slice (some ⟨g, 0, none⟩) N cap, l') :: [(vr, F), (va, F), (vb, F), (vo, Fo), (vc, F), (vq, Fo), (vt, l'), (vd, F2), (vw, F2)]) (.slice (some ⟨gi, 0, none⟩) who.length capi) who w25) := Lib.hid hK
    clear hK KC
    have KC := Lib.hid (HK.out.addE (k := 3) rfl (List.forall_mem_cons.2 ⟨⟨2, by decide, rfl⟩, List.forall_mem_nil _⟩) (by simp))
    go_wp2_with fail
    refine KC.out.mono ?_
    rintro e w26 ⟨rfl, hK⟩
    have HK : Hid (Keep w w24.heap.size [] [(va, F), (vb, F)] ((.slice (some ⟨g, 0, none⟩) N cap, l') :: [(vr, F), (va, F), (vb, F), (vo, Fo), (vc, F), (vq, Fo), (vt, l'), (vd, F2), (vw, F2)]) (.slice (some ⟨gi, 0, none⟩) who.length capi) who w26) := Lib.hid hK
    clear hK KC
    have KC := Lib.hid (HK.out.addE (k := 5) rfl (List.forall_mem_cons.2 ⟨⟨2, by decide, rfl⟩, List.forall_mem_cons.2 ⟨⟨3, by decide, rfl⟩, List.forall_mem_nil _⟩⟩) (by simp))
    go_wp2_with fail
    refine KC.out.mono ?_
    rintro e w27 ⟨rfl, hK⟩
    have HK : Hid (Keep w w24.heap.size [] [(va, F), (vb, F), (vc, F)] ((.slice (some ⟨g, 0, none⟩) N cap, l') :: [(vr, F), (va, F), (vb, F), (vo, Fo), (vc, F), (vq, Fo), (vt, l'), (vd, F2), (vw, F2)]) (.slice (some ⟨gi, 0, none⟩) who.length capi) who w27) := Lib.hid hK
    clear hK KC
    have KC := Lib.hid (HK.out.addE (k := 8) rfl (List.forall_mem_cons.2 ⟨⟨2, by decide, rfl⟩, List.forall_mem_cons.2 ⟨⟨3, by decide, rfl⟩, List.forall_mem_cons.2 ⟨⟨5, by decide, rfl⟩, List.forall_mem_nil _⟩⟩⟩) (by simp))
    go_wp2_with fail
    refine KC.out.mono ?_
    rintro e w28 ⟨rfl, hK⟩
    have HK : Hid (Keep w w24.heap.size [] [(va, F), (vb, F), (vc, F), (vd, F2)] ((.slice (some ⟨g, 0, none⟩) N cap, l') :: [(vr, F), (va, F), (vb, F), (vo, Fo), (vc, F), (vq, Fo), (vt, l'), (vd, F2), (vw, F2)]) (.slice (some ⟨gi, 0, none⟩) who.length capi) who w28) := Lib.hid hK
    clear hK KC
    have KC := Lib.hid (HK.out.addE (k := 4) rfl (List.forall_mem_cons.2 ⟨⟨2, by decide, rfl⟩, List.forall_mem_cons.2 ⟨⟨3, by decide, rfl⟩, List.forall_mem_cons.2 ⟨⟨5, by decide, rfl⟩, List.forall_mem_cons.2 ⟨⟨8, by decide, rfl⟩, List.forall_mem_nil _⟩⟩⟩⟩) (by simp))
    go_wp2_with fail
    refine KC.out.mono ?_
    rintro e w29 ⟨rfl, hK⟩
    have HK : Hid (Keep w w24.heap.size [] [(va, F), (vb, F), (vc, F), (vd, F2), (vo, Fo)] ((.slice (some ⟨g, 0, none⟩) N cap, l') :: [(vr, F), (va, F), (vb, F), (vo, Fo), (vc, F), (vq, Fo), (vt, l'), (vd, F2), (vw, F2)]) (.slice (some ⟨gi, 0, none⟩) who.length capi) who w29) := Lib.hid hK
    clear hK KC
    have KC := Lib.hid (HK.out.addE (k := 0) rfl (List.forall_mem_cons.2 ⟨⟨2, by decide, rfl⟩, List.forall_mem_cons.2 ⟨⟨3, by decide, rfl⟩, List.forall_mem_cons.2 ⟨⟨5, by decide, rfl⟩, List.forall_mem_cons.2 ⟨⟨8, by decide, rfl⟩, List.forall_mem_cons.2 ⟨⟨4, by decide, rfl⟩, List.forall_mem_nil _⟩⟩⟩⟩⟩) (by simp))
    go_wp2_with fail
    refine KC.out.mono ?_
    rintro e w30 ⟨rfl, hK⟩
    have HK : Hid (Keep w w24.heap.size [] [(va, F), (vb, F), (vc, F), (vd, F2), (vo, Fo), (.slice (some ⟨g, 0, none⟩) N cap, l')] ((.slice (some ⟨g, 0, none⟩) N cap, l') :: [(vr, F), (va, F), (vb, F), (vo, Fo), (vc, F), (vq, Fo), (vt, l'), (vd, F2), (vw, F2)]) (.slice (some ⟨gi, 0, none⟩) who.length capi) who w30) := Lib.hid hK
    clear hK KC
    have KC := Lib.hid HK.out.addI
    go_wp2_with fail
    refine KC.out.mono ?_
    rintro e w31 ⟨rfl, vI, vE, hS⟩
    have h6 := HF2.out.small
    have h7 := HN2.out.1
    have KC := Lib.hid (bag_end hS (by simp) (by simp) (by simp) (by simp) (List.forall_mem_cons.2 ⟨by show who.length ≤ _; omega, List.forall_mem_nil _⟩)
      (List.forall_mem_cons.2 ⟨by show F.length ≤ _; omega, List.forall_mem_cons.2 ⟨by show F.length ≤ _; omega, List.forall_mem_cons.2 ⟨by show F.length ≤ _; omega, List.forall_mem_cons.2 ⟨by show F2.length ≤ _; omega, List.forall_mem_cons.2 ⟨by show Fo.length ≤ _; omega, List.forall_mem_cons.2 ⟨by show l'.length ≤ _; omega, List.forall_mem_nil _⟩⟩⟩⟩⟩⟩) HE.out)
    clear HK hS
    go_wp2_with fail
    refine KC.out.mono ?_
    rintro e w32 ⟨rfl, hB⟩
    have HB := Lib.hid hB
    clear hB KC
    go_wp2
    go_ret
    exact ⟨rfl, HB.out⟩
end Go.Proofs.YtgjgafibipepeaaGreatDoor.Bag
