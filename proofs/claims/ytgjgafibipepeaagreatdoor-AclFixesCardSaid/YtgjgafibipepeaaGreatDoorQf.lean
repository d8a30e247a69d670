import Derived.Test.YtgjgafibipepeaaGreatDoorQe
namespace Go.Proofs.YtgjgafibipepeaaGreatDoor.Q
open Go.RowKit Go.Proofs.YtgjgafibipepeaaGreatDoorW.PrintWords Go.Deep Go.Maps Go.WideShapes Go.Lib
open Go.Proofs.YtgjgafibipepeaaGreatDoor.Pr (S39 S41 k39 k41 z39 z41 info41)
open Go.Proofs.YtgjgafibipepeaaGreatDoor
set_option linter.unusedVariables false
set_option linter.unusedSimpArgs false
attribute [local go_sem] Oper.semAt_some
/-! ALLOWS: THE WALK -/
theorem anyI2_calls (P : S39 → Prop) (p : S39 → Bool) (g : Nat) (lb : Array Value) (eg : ∀ args w, (callFunc g args).run Tryz.prog w = .ok (.enter g args) w) (A : Option Addr) (c : Nat) (l : List S39) (w : World)
    (hp : PredBelow Tryz.prog g lb (fun x : {x : S39 // P x} => .agg (encI x.1).toArray) (fun x => p x.1) w) (hr : Kd.C k39 w A l.length l) (hsm : ∀ x ∈ l, P x) (hl : l.length < 2147483648) :
    Calls Tryz.prog 32 #[.slice A l.length c, .func (.func g) #[] lb] w fun e w' => e = .returned (.bool (l.any p)) ∧ Below w.heap.size w w' := by
  cases l with
  | nil => exact cfI_none _ A c w
  | cons a r =>
    have ha : P a := hsm a List.mem_cons_self
    generalize hL : a :: r = l at hr hsm hl ⊢
    obtain ⟨b, off, rfl, hb, hcell⟩ := rows_of encI 2 z39 hr rfl (by omega) (fun x cs h => Pr.k39_open h) (fun _ => rfl) (by rw [← hL]; simp)
    obtain ⟨zs, hz⟩ := lift_list l hsm
    have hzl : zs.length = l.length := by rw [← hz]; simp
    letI : Inhabited {x : S39 // P x} := ⟨⟨a, ha⟩⟩
    have K := AnyQ.slices_ContainsFunc Tryz.cfI 2 Tryz.isAgg39 Tryz.sizeOf39 (fun x : {x : S39 // P x} => encI x.1) (fun _ => rfl) (fun x => p x.1) g lb eg b off l.length c zs w hp (by omega) (by omega) hb (fun j hj i v hv => by
      have hj' : j < l.length := by omega
      have e : l[j] = (zs[j]!).1 := by
        have : l[j]? = (zs[j]?).map (·.1) := by rw [← hz]; simp
        rw [List.getElem?_eq_getElem hj', List.getElem?_eq_getElem hj] at this
        rw [getElem!_pos zs j hj]
        simpa using this
      exact hcell j hj' i v (by rw [e]; exact hv))
    refine K.mono fun e w' ⟨he, hbw⟩ => ⟨?_, hbw⟩
    rw [he, List.take_of_length_le (by omega), ← hz, List.any_map]
    rfl
def meE (x : S41) (i : S39) : Bool := meetB x.f1.f0.data.toList x.f1.f1.data.toList i.f0.data.toList i.f1.data.toList
def mayB (who : List S39) (l : List S41) (acc : Int) : Int := l.foldl (fun a x => if (x.f1.f0.toList == sWorld) || who.any (meE x) then bits .or .i8 a x.f0 else a) acc
def allowsB (l : List S41) (p : Int) (who : List S39) : Bool :=
  !decide (l.length = 0) && (checkB l && (!l.any authB && (decide (0 ≤ p) && (decide (p ≤ 31) && (checkIB who && (bits .andNot .i8 p (mayB who l 0) == 0))))))
theorem isAuth_pred (w : World) : PredBelow Tryz.prog 40 #[] (fun x : {x : S41 // smE x} => .agg (encE x.1).toArray) (fun x => authB x.1) w := fun W x hb =>
  (Pr.acl_isAuth.calls x.1.f0 x.1.f1.f0 x.1.f1.f1 _ W rfl).mono fun e w' ⟨he, h⟩ => ⟨he, below_step hb h⟩
set_option maxHeartbeats 1000000 in
theorem allows1_calls (x : S41) (i : S39) (g : Nat) (W : World) (hx : smE x) (hi : smI i) (hex : entI x.f1 = true) (hci : cli i = true) (hE : Env W)
    (hg : W.heap[g]? = some (.cells #[.int .i8 x.f0, .string x.f1.f0, .string x.f1.f1] 41 (0, 0))) :
    Calls Tryz.prog 62 #[.agg #[.string i.f0, .string i.f1], .pointer (some ⟨g, 0, none⟩)] W fun e w' => e = .returned (.bool (meE x i)) ∧ Below W.heap.size W w' := by
  obtain ⟨q, s, m⟩ := x
  obtain ⟨t, u⟩ := i
  have HB0 := Lib.hid (below_alloc (Below.refl _ W) (.cells #[.string t, .string u] 39))
  have K := Lib.hid (meets_calls s m t u (W.alloc (.cells #[.string t, .string u] 39)) hx.1 hx.2 hi.1 hi.2 (hE.below HB0.out) hex hci)
  have hg1 := blk_below hg HB0.out
  have g1 := cell_row (k := 1) (v := .string s) hg1 rfl
  have g2 := cell_row (k := 2) (v := .string m) hg1 rfl
  unfold meE
  dsimp only at K ⊢
  generalize meetB s.data.toList m.data.toList t.data.toList u.data.toList = r at K ⊢
  clear hex hci hE hx hi hg hg1
  go_enter Tryz.func62, Tryz.ntmps62
  go_wp2_with fail
  refine K.out.mono ?_
  rintro e w1 ⟨rfl, hB1⟩
  have HB1 := Lib.hid (below_step HB0.out hB1)
  clear hB1 K
  go_wp2
  go_ret
  exact ⟨rfl, HB1.out⟩
end Go.Proofs.YtgjgafibipepeaaGreatDoor.Q
namespace Go.Proofs.YtgjgafibipepeaaGreatDoor.Q
open Go.RowKit Go.Proofs.YtgjgafibipepeaaGreatDoorW.PrintWords Go.Deep Go.Maps Go.WideShapes Go.Lib
open Go.Proofs.YtgjgafibipepeaaGreatDoor.Pr (S39 S41 k39 k41 z39 z41 info41)
open Go.Proofs.YtgjgafibipepeaaGreatDoor
set_option linter.unusedVariables false
set_option linter.unusedSimpArgs false
attribute [local go_sem] Oper.semAt_some
/-! ALLOWS: THE WALK -/
theorem ent_of_check {l : List S41} (h : checkB l = true) : ∀ x ∈ l, entI x.f1 = true := by
  intro x hx
  unfold checkB at h
  simp only [Bool.and_eq_true, Bool.not_eq_true', List.any_eq_false] at h
  have := h.2.2 x hx
  unfold ent at this
  simp only [Bool.not_eq_true', Bool.not_eq_false, Bool.and_eq_true] at this
  exact this.2.2
theorem cli_of_check {l : List S39} (h : checkIB l = true) : ∀ x ∈ l, cli x = true := by
  intro x hx
  unfold checkIB at h
  simp only [Bool.and_eq_true, Bool.not_eq_true', List.any_eq_false] at h
  have := h.2.2 x hx
  simpa using this
set_option maxHeartbeats 8000000 in
theorem allows_calls (A0 A1 : Option Addr) (c0 c1 : Nat) (l : List S41) (p : Int) (who : List S39) (w : World) (hr0 : Kd.C k41 w A0 l.length l) (hc0 : l.length ≤ c0) (hr1 : Kd.C k39 w A1 who.length who) (hc1 : who.length ≤ c1)
    (hsl : ∀ x ∈ l, smE x) (hsw : ∀ x ∈ who, smI x) (hl : l.length < 2147483648) (hw : who.length < 2147483648) (hE : Env w) :
    Calls Tryz.prog 24 #[.slice A0 l.length c0, .int .i8 p, .slice A1 who.length c1] w fun e w' => e = .returned (.bool (allowsB l p who)) ∧ Below w.heap.size w w' := by
  have K1 := Lib.hid (check_calls A0 c0 l w hr0 hc0 hsl hl hE)
  have K2 : Hid (∀ W, Below w.heap.size w W → Calls Tryz.prog 30 #[.slice A0 l.length c0, .func (.func 40) #[] #[]] W fun e w' => e = .returned (.bool (l.any authB)) ∧ Below W.heap.size W w') :=
    Lib.hid fun W hb => anyE_calls authB 40 #[] (enters_of Tryz.func40 (by kernel_rfl) rfl) A0 c0 l W (isAuth_pred W) (Kd.C_below hr0 hb) hsl hl
  have K3 : Hid (∀ W, Below w.heap.size w W → Calls Tryz.prog 10 #[.slice A1 who.length c1] W fun e w' => e = .returned (errV (checkIB who)) ∧ Below W.heap.size W w') :=
    Lib.hid fun W hb => checkIds_calls A1 c1 who W (Kd.C_below hr1 hb) hc1 hsw hw (hE.below hb)
  have HR0 := Lib.hid hr0
  have HR1 := Lib.hid hr1
  have HE := Lib.hid hE
  have HSL := Lib.hid hsl
  have HSW := Lib.hid hsw
  unfold allowsB
  clear hr0 hr1 hE hsl hsw
  by_cases hz : l.length = 0
  · have q1 : decide ((l.length : Int) = 0) = true := decide_eq_true (by omega)
    rw [decide_eq_true hz]
    clear K1 K2 K3 HR0 HR1 HSL HSW HE
    go_enter Tryz.func24, Tryz.ntmps24
    go_wp2
    all_goals (go_ret; exact ⟨rfl, Below.refl _ _⟩)
  have q1 : decide ((l.length : Int) = 0) = false := decide_eq_false (by omega)
  rw [decide_eq_false hz]
  cases hb1 : checkB l
  · rw [hb1] at K1
    clear K2 K3 HR0 HR1 HSL HSW HE hb1
    go_enter Tryz.func24, Tryz.ntmps24
    go_wp2_with fail
    refine K1.out.mono ?_
    rintro e w1 ⟨rfl, hB1⟩
    have HB1 := Lib.hid hB1
    clear hB1 K1
    unfold errV
    go_wp2
    go_ret
    exact ⟨rfl, HB1.out⟩
  rw [hb1] at K1
  have HC1 := Lib.hid hb1
  clear hb1
  cases hb2 : l.any authB
  case true =>
    rw [hb2] at K2
    clear K3 HR0 HR1 HSL HSW HE hb2
    go_enter Tryz.func24, Tryz.ntmps24
    go_wp2_with fail
    refine K1.out.mono ?_
    rintro e w1 ⟨rfl, hB1⟩
    have HB1 := Lib.hid hB1
    have K4 := Lib.hid (K2.out w1 hB1)
    clear hB1 K1 K2
    unfold errV
    go_wp2_with fail
    refine K4.out.mono ?_
    rintro e w2 ⟨rfl, hB2⟩
    have HB2 := Lib.hid (below_step HB1.out hB2)
    clear hB2 K4
    go_wp2
    go_ret
    exact ⟨rfl, HB2.out⟩
  rw [hb2] at K2
  clear hb2
  by_cases hp0 : 0 ≤ p
  case neg =>
    have q3 : decide (p < 0) = true := decide_eq_true (by omega)
    rw [decide_eq_false hp0]
    clear K3 HR0 HR1 HSL HSW HE
    go_enter Tryz.func24, Tryz.ntmps24
    go_wp2_with fail
    refine K1.out.mono ?_
    rintro e w1 ⟨rfl, hB1⟩
    have HB1 := Lib.hid hB1
    have K4 := Lib.hid (K2.out w1 hB1)
    clear hB1 K1 K2
    unfold errV
    go_wp2_with fail
    refine K4.out.mono ?_
    rintro e w2 ⟨rfl, hB2⟩
    have HB2 := Lib.hid (below_step HB1.out hB2)
    clear hB2 K4
    go_wp2
    go_ret
    exact ⟨rfl, HB2.out⟩
  have q3 : decide (p < 0) = false := decide_eq_false (by omega)
  rw [decide_eq_true hp0]
  by_cases hp1 : p ≤ 31
  case neg =>
    have q4 : decide (31 < p) = true := decide_eq_true (by omega)
    rw [decide_eq_false hp1]
    clear K3 HR0 HR1 HSL HSW HE
    go_enter Tryz.func24, Tryz.ntmps24
    go_wp2_with fail
    refine K1.out.mono ?_
    rintro e w1 ⟨rfl, hB1⟩
    have HB1 := Lib.hid hB1
    have K4 := Lib.hid (K2.out w1 hB1)
    clear hB1 K1 K2
    unfold errV
    go_wp2_with fail
    refine K4.out.mono ?_
    rintro e w2 ⟨rfl, hB2⟩
    have HB2 := Lib.hid (below_step HB1.out hB2)
    clear hB2 K4
    go_wp2
    go_ret
    exact ⟨rfl, HB2.out⟩
  have q4 : decide (31 < p) = false := decide_eq_false (by omega)
  rw [decide_eq_true hp1]
  cases hb3 : checkIB who
  · rw [hb3] at K3
    clear HR0 HR1 HSL HSW HE hb3
    go_enter Tryz.func24, Tryz.ntmps24
    go_wp2_with fail
    refine K1.out.mono ?_
    rintro e w1 ⟨rfl, hB1⟩
    have HB1 := Lib.hid hB1
    have K4 := Lib.hid (K2.out w1 hB1)
    clear hB1 K1 K2
    unfold errV
    go_wp2_with fail
    refine K4.out.mono ?_
    rintro e w2 ⟨rfl, hB2⟩
    have HB2 := Lib.hid (below_step HB1.out hB2)
    have K5 := Lib.hid (K3.out w2 (below_step HB1.out hB2))
    clear hB2 K4 K3
    go_wp2_with fail
    refine K5.out.mono ?_
    rintro e w3 ⟨rfl, hB3⟩
    have HB3 := Lib.hid (below_step HB2.out hB3)
    clear hB3 K5
    unfold errV
    go_wp2
    go_ret
    exact ⟨rfl, HB3.out⟩
  rw [hb3] at K3
  have HC3 := Lib.hid hb3
  clear hb3
  go_enter Tryz.func24, Tryz.ntmps24
  go_wp2_with fail
  refine K1.out.mono ?_
  rintro e w1 ⟨rfl, hB1⟩
  have HB1 := Lib.hid hB1
  have K4 := Lib.hid (K2.out w1 hB1)
  clear hB1 K1 K2
  unfold errV
  go_wp2_with fail
  refine K4.out.mono ?_
  rintro e w2 ⟨rfl, hB2⟩
  have HB2 := Lib.hid (below_step HB1.out hB2)
  have K5 := Lib.hid (K3.out w2 (below_step HB1.out hB2))
  clear hB2 K4 K3
  go_wp2_with fail
  refine K5.out.mono ?_
  rintro e w3 ⟨rfl, hB3⟩
  have HB3 := Lib.hid (below_step HB2.out hB3)
  clear hB3 K5
  unfold errV
  go_wp2_with fail
  rw [show (((l.length : Nat) : Int) == 0) = false from beq_eq_false_iff_ne.2 (by omega)]
  go_loopw [37, 7] (fun vi vm wr => ∃ (x : Int) (acc : Int), vi = .int .i64 x ∧ 0 ≤ x ∧ x ≤ (l.length : Int) ∧ vm = .int .i8 acc ∧ Hid (mayB who (l.drop x.toNat) acc = mayB who l 0) ∧ Hid (Below w.heap.size w wr)) (fun vi _ _ => ((l.length : Int) - intOf vi).toNat)
  case atStart => exact ⟨0, 0, rfl, by omega, by omega, rfl, Lib.hid rfl, HB3⟩
  case round =>
    obtain ⟨x, acc, rfl, x0, xl, rfl, HL, HB⟩ := hrel
    by_cases c2 : x < (l.length : Int)
    · have q2 : decide (x < (l.length : Int)) = true := decide_eq_true c2
      have hlt : x.toNat < l.length := by omega
      obtain ⟨el, hel⟩ : ∃ y, Pr.rd_T41 l x = y := ⟨_, rfl⟩
      obtain ⟨ad, eA, hx0, hx1, hx2⟩ := Pr.at_T41 HR0.out x x0 c2
      cases eA
      rw [hel] at hx0 hx1 hx2
      replace hx0 := pw_cell_below HB.out hx0
      replace hx1 := pw_cell_below HB.out hx1
      replace hx2 := pw_cell_below HB.out hx2
      have hwy : l[x.toNat] = el := by
        rw [← hel]
        simp [Pr.rd_T41, List.getD, List.getElem?_eq_getElem hlt]
      have hmem : el ∈ l := hwy ▸ List.getElem_mem hlt
      have hsm := HSL.out el hmem
      have hen := ent_of_check HC1.out el hmem
      have HD : Hid (mayB who l 0 = mayB who (l.drop (x + 1).toNat) (if (el.f1.f0.toList == sWorld) || who.any (meE el) then bits .or .i8 acc el.f0 else acc)) := Lib.hid (by
        rw [← HL.out, List.drop_eq_getElem_cons hlt, hwy, show (x + 1).toNat = x.toNat + 1 by omega]
        rfl)
      obtain ⟨q, s, m⟩ := el
      dsimp only at hx0 hx1 hx2 HD
      clear hel hwy hmem HL
      have x0' := eq_true x0
      have c2' := eq_true c2
      have hBW := below_alloc (Below.refl _ wr) (.cells #[.int .i8 q, .string s, .string m] 41)
      have HBW := Lib.hid (below_step HB.out hBW)
      have hZ := World.alloc_heap_new wr (.cells #[.int .i8 q, .string s, .string m] 41)
      have K6 := Lib.hid (anyI2_calls (fun i => smI i ∧ cli i = true) (meE ⟨q, ⟨s, m⟩⟩) 62 #[.pointer (some ⟨wr.heap.size, 0, none⟩)] (enters_of Tryz.func62 (by kernel_rfl) rfl) A1 c1 who (wr.alloc (.cells #[.int .i8 q, .string s, .string m] 41))
        (fun V i hb => (allows1_calls ⟨q, ⟨s, m⟩⟩ i.1 wr.heap.size V hsm i.2.1 hen i.2.2 ((HE.out.below HBW.out).below hb) (blk_below hZ hb)).mono fun e w' ⟨he, h⟩ => ⟨he, below_step hb h⟩)
        (Kd.C_below HR1.out HBW.out) (fun i hi => ⟨HSW.out i hi, cli_of_check HC3.out i hi⟩) hw)
      have HZ := Lib.hid hZ
      clear hZ hBW hsm hen
      cases hwo : (s.toList == ([119, 111, 114, 108, 100] : List UInt8))
      · go_wp2_with fail
        refine K6.out.mono ?_
        rintro e w4 ⟨rfl, hB4⟩
        have HB4 := Lib.hid (below_step HBW.out hB4)
        have hz4 := block_of hB4 HZ.out
        have hc4 := cell_row (k := 0) (v := .int .i8 q) hz4 rfl
        clear hB4 K6 hz4
        cases hany : who.any (meE ⟨q, ⟨s, m⟩⟩)
        · have HL5 : Hid (mayB who (l.drop (x + 1).toNat) acc = mayB who l 0) := Lib.hid (by rw [HD.out, hwo, hany]; rfl)
          clear HD
          go_wp2
          go_roundw
          case measure => simp [intOf]; omega
          case rel => exact ⟨x + 1, _, rfl, by omega, by omega, rfl, HL5, HB4⟩
        · have HL5 : Hid (mayB who (l.drop (x + 1).toNat) (bits .or .i8 acc q) = mayB who l 0) := Lib.hid (by rw [HD.out, hwo, hany]; rfl)
          clear HD
          go_wp2
          go_roundw
          case measure => simp [intOf]; omega
          case rel => exact ⟨x + 1, _, rfl, by omega, by omega, rfl, HL5, HB4⟩
      · have HL5 : Hid (mayB who (l.drop (x + 1).toNat) (bits .or .i8 acc q) = mayB who l 0) := Lib.hid (by rw [HD.out, hwo]; rfl)
        clear HD K6
        go_wp2
        go_roundw
        case measure => simp [intOf]; omega
        case rel => exact ⟨x + 1, _, rfl, by omega, by omega, rfl, HL5, HBW⟩
    · have q2 : decide (x < (l.length : Int)) = false := decide_eq_false c2
      have HA : Hid (mayB who l 0 = acc) := Lib.hid (by
        rw [← HL.out, List.drop_of_length_le (by omega)]
        rfl)
      clear HL
      go_wp2
      go_ret
      exact ⟨by rw [HA.out]; rfl, HB.out⟩
end Go.Proofs.YtgjgafibipepeaaGreatDoor.Q
namespace Go.Proofs.YtgjgafibipepeaaGreatDoor.Q
open Go.RowKit Go.Proofs.YtgjgafibipepeaaGreatDoorW.PrintWords Go.Deep Go.Maps Go.WideShapes Go.Lib
open Go.Proofs.YtgjgafibipepeaaGreatDoor.Pr (S39 S41 k39 k41 z39 z41 info41)
open Go.Proofs.YtgjgafibipepeaaGreatDoor
set_option linter.unusedVariables false
set_option linter.unusedSimpArgs false
attribute [local go_sem] Oper.semAt_some
/-! LIVES: THE LISTS AND WHAT THE FUNCTIONS ANSWER FOR THEM -/
def annI : S39 := ⟨⟨#[110, 97, 109, 101]⟩, ⟨#[97, 110, 110]⟩⟩
def thereI : S39 := ⟨⟨#[105, 112]⟩, ⟨#[49, 48, 46, 49, 46, 57, 46, 57]⟩⟩
def authE : S41 := ⟨31, ⟨⟨#[97, 117, 116, 104]⟩, ⟨#[]⟩⟩⟩
def ipE : S41 := ⟨1, ⟨⟨#[105, 112]⟩, ⟨#[49, 48, 46, 49, 46, 50, 46, 51, 47, 49, 54]⟩⟩⟩
def annE : S41 := ⟨31, annI⟩
theorem fix_lives : fixB [authE, ipE] [annI] = some [annE, ipE] := by kernel_rfl
theorem allows_a : allowsB [annE, ipE] 31 [annI] = true := by kernel_rfl
theorem allows_b : allowsB [annE, ipE] 1 [thereI] = true := by kernel_rfl
theorem allows_c : allowsB [annE, ipE] 2 [thereI] = false := by kernel_rfl
end Go.Proofs.YtgjgafibipepeaaGreatDoor.Q
namespace Go.Proofs.YtgjgafibipepeaaGreatDoor.Q
open Go.RowKit Go.Proofs.YtgjgafibipepeaaGreatDoorW.PrintWords Go.Deep Go.Maps Go.WideShapes Go.Lib
open Go.Proofs.YtgjgafibipepeaaGreatDoor.Pr (S39 S41 k39 k41 z39 z41 info41)
open Go.Proofs.YtgjgafibipepeaaGreatDoor
set_option linter.unusedVariables false
set_option linter.unusedSimpArgs false
attribute [local go_sem] Oper.semAt_some
attribute [local go_sem high] Pr.eqA39
/-! LIVES: THE WALK -/
theorem sm_lives : (∀ x ∈ [authE, ipE], smE x) ∧ (∀ x ∈ [annE, ipE], smE x) ∧ (∀ x ∈ [annI], smI x) ∧ (∀ x ∈ [thereI], smI x) := by
  refine ⟨?_, ?_, ?_, ?_⟩ <;> intro x hx <;> simp only [List.mem_cons, List.not_mem_nil, or_false] at hx
  · rcases hx with rfl | rfl <;> exact ⟨by decide, by decide⟩
  · rcases hx with rfl | rfl <;> exact ⟨by decide, by decide⟩
  · subst hx; exact ⟨by decide, by decide⟩
  · subst hx; exact ⟨by decide, by decide⟩
set_option maxHeartbeats 4000000 in
theorem lives_calls (w : World) (hE : Env w) : Calls Tryz.prog 17 #[] w fun e w' => e = .returned (.bool true) ∧ Below w.heap.size w w' := by
  obtain ⟨W1, hW1⟩ : ∃ W, w.alloc (.cells #[.int .i8 31, .string ⟨#[97, 117, 116, 104]⟩, .string ⟨#[]⟩, .int .i8 1, .string ⟨#[105, 112]⟩, .string ⟨#[49, 48, 46, 49, 46, 50, 46, 51, 47, 49, 54]⟩] 41) = W := ⟨_, rfl⟩
  obtain ⟨W2, hW2⟩ : ∃ W, W1.alloc (.cells #[.string ⟨#[110, 97, 109, 101]⟩, .string ⟨#[97, 110, 110]⟩] 39) = W := ⟨_, rfl⟩
  obtain ⟨W3, hW3⟩ : ∃ W, W2.alloc (.cells #[.string ⟨#[105, 112]⟩, .string ⟨#[49, 48, 46, 49, 46, 57, 46, 57]⟩] 39) = W := ⟨_, rfl⟩
  have hB1 : Below w.heap.size w W1 := by rw [← hW1]; exact below_alloc (Below.refl _ w) _
  have hB2 : Below W1.heap.size W1 W2 := by rw [← hW2]; exact below_alloc (Below.refl _ W1) _
  have hB3 : Below W2.heap.size W2 W3 := by rw [← hW3]; exact below_alloc (Below.refl _ W2) _
  have r1 : Kd.R k41 41 W1 w.heap.size (fun _ => True) (.slice (some ⟨w.heap.size, 0, none⟩) 2 2) [authE, ipE] := by rw [← hW1]; exact row_lit k41 w w.heap.size 41 (fun _ => True) (reps_E w w.heap.size [authE, ipE]) trivial (Nat.le_refl _) (by simp)
  have r2 : Kd.R k39 39 W2 W1.heap.size (fun _ => True) (.slice (some ⟨W1.heap.size, 0, none⟩) 1 1) [annI] := by rw [← hW2]; exact row_lit k39 W1 W1.heap.size 39 (fun _ => True) (reps_I W1 W1.heap.size [annI]) trivial (Nat.le_refl _) (by simp)
  have r3 : Kd.R k39 39 W3 W2.heap.size (fun _ => True) (.slice (some ⟨W2.heap.size, 0, none⟩) 1 1) [thereI] := by rw [← hW3]; exact row_lit k39 W2 W2.heap.size 39 (fun _ => True) (reps_I W2 W2.heap.size [thereI]) trivial (Nat.le_refl _) (by simp)
  have hz2 : W3.heap[W1.heap.size]? = some (.cells #[.string ⟨#[110, 97, 109, 101]⟩, .string ⟨#[97, 110, 110]⟩] 39 (0, 0)) := blk_below (by rw [← hW2]; exact World.alloc_heap_new _ _) hB3
  have hs1 : W1.heap.size = w.heap.size + 1 := by rw [← hW1]; simp
  have hs2 : W2.heap.size = w.heap.size + 1 + 1 := by rw [← hW2, ← hs1]; simp
  have HCl := Lib.hid (Kd.C_below (Kd.C_below (Kd.R_reads' r1).2.2 hB2) hB3)
  have HCa := Lib.hid (Kd.C_below (Kd.R_reads' r2).2.2 hB3)
  have HCt := Lib.hid (Kd.R_reads' r3).2.2
  have HB := Lib.hid (below_step (below_step hB1 hB2) hB3)
  rw [hs1] at HCa hz2
  rw [hs2] at HCt
  have HE := Lib.hid (hE.below HB.out)
  have KF := Lib.hid (fix_calls _ _ 2 1 [authE, ipE] [annI] W3 HCl.out (Nat.le_refl _) HCa.out (Nat.le_refl _) sm_lives.1 sm_lives.2.2.1 (by simp) (by simp) HE.out)
  rw [fix_lives] at KF
  have HZ := Lib.hid hz2
  clear r1 r2 r3 hB1 hB2 hB3 hz2
  go_enter Tryz.func17, Tryz.ntmps17
  go_wp2_with fail
  refine KF.out.mono ?_
  rintro e w4 ⟨hF, hB4⟩
  obtain ⟨v, rfl, hR⟩ := hF
  obtain ⟨g, cap, rfl, _, hgl, _⟩ := Kd.R_form hR (by simp)
  have hC := (Kd.R_reads' hR).2.2
  have hcap := (Kd.R_reads' hR).2.1
  have hz4 := blk_below HZ.out hB4
  have d0 := cell_row (k := 0) (v := .string ⟨#[110, 97, 109, 101]⟩) hz4 rfl
  have d1 := cell_row (k := 1) (v := .string ⟨#[97, 110, 110]⟩) hz4 rfl
  obtain ⟨ad, eA, f0, f1, f2⟩ := Pr.at_T41 hC 0 (by omega) (by simp)
  obtain rfl := Option.some.inj eA
  have f1' : w4.cell? ⟨g, 1, none⟩ = some (.string ⟨#[110, 97, 109, 101]⟩) := f1
  have f2' : w4.cell? ⟨g, 2, none⟩ = some (.string ⟨#[97, 110, 110]⟩) := f2
  have HB4 := Lib.hid (below_step HB.out hB4)
  have HCf := Lib.hid hC
  have HCa4 := Lib.hid (Kd.C_below HCa.out hB4)
  have HCt4 := Lib.hid (Kd.C_below HCt.out hB4)
  have hE4 := hE.below HB4.out
  have KA : Hid (∀ W, Below w4.heap.size w4 W → Calls Tryz.prog 24 #[.slice (some ⟨g, 0, none⟩) 2 cap, .int .i8 31, .slice (some ⟨w.heap.size + 1, 0, none⟩) 1 1] W fun e w' => e = .returned (.bool (allowsB [annE, ipE] 31 [annI])) ∧ Below W.heap.size W w') :=
    Lib.hid fun W hb => allows_calls _ _ cap 1 [annE, ipE] 31 [annI] W (Kd.C_below hC hb) hcap (Kd.C_below HCa4.out hb) (Nat.le_refl _) sm_lives.2.1 sm_lives.2.2.1 (by simp) (by simp) (hE4.below hb)
  have KB : Hid (∀ W, Below w4.heap.size w4 W → Calls Tryz.prog 24 #[.slice (some ⟨g, 0, none⟩) 2 cap, .int .i8 1, .slice (some ⟨w.heap.size + 1 + 1, 0, none⟩) 1 1] W fun e w' => e = .returned (.bool (allowsB [annE, ipE] 1 [thereI])) ∧ Below W.heap.size W w') :=
    Lib.hid fun W hb => allows_calls _ _ cap 1 [annE, ipE] 1 [thereI] W (Kd.C_below hC hb) hcap (Kd.C_below HCt4.out hb) (Nat.le_refl _) sm_lives.2.1 sm_lives.2.2.2 (by simp) (by simp) (hE4.below hb)
  have KC : Hid (∀ W, Below w4.heap.size w4 W → Calls Tryz.prog 24 #[.slice (some ⟨g, 0, none⟩) 2 cap, .int .i8 2, .slice (some ⟨w.heap.size + 1 + 1, 0, none⟩) 1 1] W fun e w' => e = .returned (.bool (allowsB [annE, ipE] 2 [thereI])) ∧ Below W.heap.size W w') :=
    Lib.hid fun W hb => allows_calls _ _ cap 1 [annE, ipE] 2 [thereI] W (Kd.C_below hC hb) hcap (Kd.C_below HCt4.out hb) (Nat.le_refl _) sm_lives.2.1 sm_lives.2.2.2 (by simp) (by simp) (hE4.below hb)
  rw [allows_a] at KA
  rw [allows_b] at KB
  rw [allows_c] at KC
  clear KF HCl HZ hz4 f0 f1 f2 hB4 hW1 hW2 hW3 hC hR
  unfold errV
  go_wp2_with fail
  have F1 : ∀ d os, (Go.Sort.grow (redrawn w4 d) os).cell? ⟨g, 1, none⟩ = some (.string ⟨#[110, 97, 109, 101]⟩) := fun d os => pw_cell_below (below_regrown w4 d os) f1'
  have F2 : ∀ d os, (Go.Sort.grow (redrawn w4 d) os).cell? ⟨g, 2, none⟩ = some (.string ⟨#[97, 110, 110]⟩) := fun d os => pw_cell_below (below_regrown w4 d os) f2'
  have D0 : ∀ d os, (Go.Sort.grow (redrawn w4 d) os).cell? ⟨w.heap.size + 1, 0, none⟩ = some (.string ⟨#[110, 97, 109, 101]⟩) := fun d os => pw_cell_below (below_regrown w4 d os) d0
  have D1 : ∀ d os, (Go.Sort.grow (redrawn w4 d) os).cell? ⟨w.heap.size + 1, 1, none⟩ = some (.string ⟨#[97, 110, 110]⟩) := fun d os => pw_cell_below (below_regrown w4 d os) d1
  refine wp_region_quiet_below (by kernel_rfl) (by kernel_rfl) ?_
  repeat (go_big_quiet_step (fail))
  refine wpQuiet_nil ?_
  intro _ hw'
  obtain ⟨⟨dq, osq⟩, hw''⟩ := hw'
  subst hw''
  have H45 := Lib.hid (below_regrown w4 dq osq)
  generalize Go.Sort.grow (redrawn w4 dq) osq = w5 at *
  have K1 := Lib.hid (KA.out w5 H45.out)
  clear F1 F2 D0 D1 d0 d1 f1' f2' KA
  go_wp2_with fail
  refine K1.out.mono ?_
  rintro e w6 ⟨rfl, hB6⟩
  have H46 := Lib.hid (below_step H45.out hB6)
  have K2 := Lib.hid (KB.out w6 H46.out)
  clear hB6 K1 KB
  go_wp2_with fail
  refine K2.out.mono ?_
  rintro e w7 ⟨rfl, hB7⟩
  have H47 := Lib.hid (below_step H46.out hB7)
  have K3 := Lib.hid (KC.out w7 H47.out)
  clear hB7 K2 KC
  go_wp2_with fail
  refine K3.out.mono ?_
  rintro e w8 ⟨rfl, hB8⟩
  have H48 := Lib.hid (below_step HB4.out (below_step H47.out hB8))
  clear hB8 K3
  go_wp2
  go_ret
  exact ⟨rfl, H48.out⟩
end Go.Proofs.YtgjgafibipepeaaGreatDoor.Q
