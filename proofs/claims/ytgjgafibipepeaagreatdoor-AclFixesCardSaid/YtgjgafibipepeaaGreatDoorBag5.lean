import Derived.Test.YtgjgafibipepeaaGreatDoorBag4
namespace Go.Proofs.YtgjgafibipepeaaGreatDoor.Bag
open Go.RowKit Go.Proofs.YtgjgafibipepeaaGreatDoorW.PrintWords Go.Deep Go.Maps Go.WideShapes Go.Lib
open Go.Proofs.YtgjgafibipepeaaGreatDoor.Pr (S39 S41 k39 k41 z39 z41 info39 info41)
open Go.Proofs.YtgjgafibipepeaaGreatDoor.Q
set_option linter.unusedVariables false
set_option linter.unusedSimpArgs false
attribute [local go_sem] Oper.semAt_some
/-! APART, OF LISTS OF ENTRIES -/
theorem map_set_start {L : Lists S41} {i : Nat} {v : Value} {xs : List S41} : ((L.set i (v, xs)).map fun x => start x.1 x.2) = (L.map fun x => start x.1 x.2).set i (start v xs) := by
  rw [List.map_set]
theorem putE {w0 W : World} {L : Lists S41} (h : BagE w0 W (L.map fun x => start x.1 x.2)) {i : Nat} {v : Value} {xs : List S41} (hi : L[i]? = some (v, xs)) {g cap : Nat} (hv : v = .slice (some ⟨g, 0, none⟩) xs.length cap) {k : Int} (k0 : 0 ≤ k) (hk : k < (xs.length : Int)) :
    (∃ u, W.cell? ⟨g, k.toNat * 3, none⟩ = some u) ∧ (∃ u, W.cell? ⟨g, k.toNat * 3 + 1, none⟩ = some u) ∧ (∃ u, W.cell? ⟨g, k.toNat * 3 + 2, none⟩ = some u) ∧
    W.frozen? ⟨g, k.toNat * 3, none⟩ = false ∧ W.frozen? ⟨g, k.toNat * 3 + 1, none⟩ = false ∧ W.frozen? ⟨g, k.toNat * 3 + 2, none⟩ = false ∧
    ∀ y : S41,
      BagE w0 (((W.setCell ⟨g, k.toNat * 3, none⟩ (.int .i8 y.f0)).setCell ⟨g, k.toNat * 3 + 1, none⟩ (.string y.f1.f0)).setCell ⟨g, k.toNat * 3 + 2, none⟩ (.string y.f1.f1)) ((L.set i (v, xs.set k.toNat y)).map fun x => start x.1 x.2) ∧
      W.grownBy (((W.setCell ⟨g, k.toNat * 3, none⟩ (.int .i8 y.f0)).setCell ⟨g, k.toNat * 3 + 1, none⟩ (.string y.f1.f0)).setCell ⟨g, k.toNat * 3 + 2, none⟩ (.string y.f1.f1)) (some g) ∧ w0.heap.size ≤ g ∧ ∃ cs, W.heap[g]? = some (.cells cs 41 (0, 0)) := by
  have hiL : i < L.length := (List.getElem?_eq_some_iff.1 hi).1
  have him : i < (L.map fun x => start x.1 x.2).length := by simpa using hiL
  have hLi : L[i] = (v, xs) := by rw [List.getElem?_eq_getElem hiL] at hi; exact Option.some.inj hi
  have hst : (L.map fun x => start x.1 x.2)[i] = start v xs := by simp [hLi]
  have hG := h.ok i him
  rw [hst] at hG
  have hrow : Row encE 3 w0.heap.size 41 W v xs := hG.rv
  have hR := R_of_row (d := k41) rfl (fun _ => rfl) (fun w b o x => Pr.k41_mkM w b o x) hrow
  rw [hv] at hR
  obtain ⟨cf, hcl, hNc, hcc, hfr⟩ := Kd.R_elem hR z41 k k0 hk
  obtain rfl := Pr.k41_openM hNc
  refine ⟨⟨_, hcc 0 _ rfl⟩, ⟨_, hcc 1 _ rfl⟩, ⟨_, hcc 2 _ rfl⟩, hfr 0, hfr 1, hfr 2, fun y => ?_⟩
  have hs := Kd.R_seg hR k k0 hk (seg := [.int .i8 y.f0, .string y.f1.f0, .string y.f1.f1]) (j := 0) (x' := y) hcl hcc (Nat.le_refl 3) (Pr.k41_mkM _ _ (fun _ => False) _) (fun _ h => h.elim)
  have hrow2 := row_of_R (enc := encE) (size := 3) rfl (fun _ => rfl) (fun w b o x cs hx => Pr.k41_openM hx) hs.1
  refine ⟨?_, hs.2, (hrow.lt (b := g) (by rw [hv]; rfl)).1, ?_⟩
  · rw [map_set_start]
    refine h.put him hst (g := g) (by rw [hv]; rfl) ?_ hs.2
    have : (Value.slice (some ⟨g, 0, none⟩) xs.length cap) = v := hv.symm
    rw [this] at hrow2
    exact hrow2
  · rcases hrow.shape with ⟨h1, _⟩ | ⟨g', cap', h1, _, _, cs, hc⟩
    · rw [hv] at h1; cases h1
    · rw [hv] at h1
      simp only [Value.slice.injEq, Option.some.injEq, Addr.mk.injEq, and_true, true_and] at h1
      obtain ⟨rfl, _⟩ := h1
      exact ⟨cs, hc⟩
/-- the lists that are being marked: so many are done, of the next one so many elements -/
structure Marking (L0 : Lists S41) (i k : Nat) (L : Lists S41) : Prop where
  len : L.length = L0.length
  v : ∀ j (hj : j < L0.length), (L[j]'(by rw [len]; exact hj)).1 = L0[j].1
  n : ∀ j (hj : j < L0.length), (L[j]'(by rw [len]; exact hj)).2.length = L0[j].2.length
  done : ∀ j (hj : j < L0.length), j < i → (L[j]'(by rw [len]; exact hj)).2 = List.replicate L0[j].2.length (mk1 j)
  now : ∀ (hj : i < L0.length), ∀ m (hm : m < (L[i]'(by rw [len]; exact hj)).2.length), m < k → ((L[i]'(by rw [len]; exact hj)).2)[m] = mk1 i
theorem Marking.start {L0 : Lists S41} : Marking L0 0 0 L0 :=
  ⟨rfl, fun _ _ => rfl, fun _ _ => rfl, fun j _ h => absurd h (Nat.not_lt_zero _), fun _ m _ h => absurd h (Nat.not_lt_zero _)⟩
theorem Marking.next {L0 L : Lists S41} {i k : Nat} (h : Marking L0 i k L) (hk : ∀ (hj : i < L0.length), L0[i].2.length ≤ k) : Marking L0 (i + 1) 0 L := by
  refine ⟨h.len, h.v, h.n, fun j hj hji => ?_, fun hj m hm h0 => absurd h0 (Nat.not_lt_zero _)⟩
  by_cases e : j = i
  · subst e
    have h1 := h.n j hj
    rw [List.eq_replicate_iff]
    refine ⟨h1, fun b hb => ?_⟩
    obtain ⟨m, hm, rfl⟩ := List.mem_iff_getElem.1 hb
    exact h.now hj m hm (by have := hk hj; omega)
  · exact h.done j hj (by omega)
theorem Marking.put {L0 L : Lists S41} {i k : Nat} (h : Marking L0 i k L) {v : Value} {xs : List S41} (hi : L[i]? = some (v, xs)) : Marking L0 i (k + 1) (L.set i (v, xs.set k (mk1 i))) := by
  have hiL : i < L.length := (List.getElem?_eq_some_iff.1 hi).1
  have hLi : L[i] = (v, xs) := by rw [List.getElem?_eq_getElem hiL] at hi; exact Option.some.inj hi
  refine ⟨by simp [h.len], fun j hj => ?_, fun j hj => ?_, fun j hj hji => ?_, fun hj m hm hmk => ?_⟩
  · rw [List.getElem_set]; split
    · rename_i e; subst e; have := h.v i hj; rw [hLi] at this; exact this
    · exact h.v j hj
  · rw [List.getElem_set]; split
    · rename_i e; subst e; have := h.n i hj; rw [hLi] at this; simpa using this
    · exact h.n j hj
  · rw [List.getElem_set_ne (by omega)]; exact h.done j hj hji
  · simp only [List.getElem_set_self] at hm ⊢
    rw [List.getElem_set]
    split
    · rfl
    · rename_i hne
      have h2 := h.now hj m (by rw [hLi]; simpa using hm) (by omega)
      rw [List.getElem_of_eq (congrArg Prod.snd hLi)] at h2
      exact h2
set_option maxRecDepth 100000 in
set_option maxHeartbeats 8000000 in
theorem apartE_calls (w0 W : World) (p cp : Nat) (L0 : Lists S41) (cs : Array Value) (hB0 : Below w0.heap.size w0 W) (hL : L0.length ≤ 1000) (hLp : L0.length ≤ cp)
    (hout : W.heap[p]? = some (.cells cs 22 (0, 0))) (hcs : ∀ j (hj : j < L0.length), cs[j]? = some L0[j].1) (hsm : ∀ j (hj : j < L0.length), L0[j].2.length ≤ 4294967296)
    (hbag : BagE w0 W (L0.map fun x => start x.1 x.2)) (hE : Env w0) :
    Calls Tryz.prog 46 #[.slice (some ⟨p, 0, none⟩) L0.length cp] W fun e w' => e = .returned (.bool true) ∧ Below w0.heap.size w0 w' ∧ KeptBut 41 W w' := by
  have HE := Lib.hid hE
  have HOUT := Lib.hid (And.intro hout hcs)
  have HSM := Lib.hid hsm
  have HB0 := Lib.hid hB0
  have HBAG : Hid (∃ L, Marking L0 0 0 L ∧ BagE w0 W (L.map fun x => start x.1 x.2)) := Lib.hid ⟨_, Marking.start, hbag⟩
  obtain ⟨n, hn⟩ : ∃ n, L0.length = n := ⟨_, rfl⟩
  have HN := Lib.hid hn
  rw [hn] at hL hLp ⊢
  clear hE hout hcs hsm hB0 hbag hn
  go_enter Tryz.func46, Tryz.ntmps46
  go_wp2_with fail
  go_loopw [3] (fun vi wr => ∃ (x : Int), vi = .int .i64 x ∧ 0 ≤ x ∧ x ≤ (n : Int) ∧ Hid (∃ L, Marking L0 x.toNat 0 L ∧ BagE w0 wr (L.map fun x => start x.1 x.2)) ∧ Hid (Below w0.heap.size w0 wr) ∧ Hid (KeptBut 41 W wr)) (fun vi _ => ((n : Int) - intOf vi).toNat)
  case atStart => exact ⟨0, rfl, by omega, by omega, HBAG, HB0, Lib.hid (KeptBut.refl _ _)⟩
  case round =>
  clear HBAG
  obtain ⟨x, rfl, x0, xn, HM, HB, HK⟩ := hrel
  by_cases c2 : x < (n : Int)
  · have q2 : decide (x < (n : Int)) = true := decide_eq_true c2
    have hx : x.toNat < L0.length := by rw [HN.out]; omega
    have hxx : ((x.toNat : Nat) : Int) = x := by omega
    obtain ⟨A, nv, cv, hA⟩ : ∃ A nv cv, L0[x.toNat].1 = .slice A nv cv ∧ nv = L0[x.toNat].2.length := by
      obtain ⟨L, hM, hBG⟩ := HM.out
      have hxl : x.toNat < L.length := by rw [hM.len]; exact hx
      have h1 := (hBG.ok x.toNat (by rw [List.length_map]; exact hxl)).rv
      simp only [List.getElem_map] at h1
      obtain ⟨A, c, h2, _⟩ := Row.slice h1
      have h3 : L[x.toNat].1 = L0[x.toNat].1 := hM.v x.toNat hx
      have h4 : (start L[x.toNat].1 L[x.toNat].2).v = L[x.toNat].1 := rfl
      rw [h4, h3] at h2
      exact ⟨A, _, c, h2, hM.n x.toNat hx⟩
    have HA := Lib.hid hA
    have hnv : nv ≤ 4294967296 := by rw [hA.2]; exact HSM.out _ hx
    have x0' := eq_true x0
    have c2' := eq_true c2
    clear hA
    go_wp2_with fail
    go_loopw [4] (fun vk wr2 => ∃ (k : Int), vk = .int .i64 k ∧ 0 ≤ k ∧ k ≤ (nv : Int) ∧ Hid (∃ L, Marking L0 x.toNat k.toNat L ∧ BagE w0 wr2 (L.map fun x => start x.1 x.2)) ∧ Hid (Below w0.heap.size w0 wr2) ∧ Hid (KeptBut 41 W wr2)) (fun vk _ => ((nv : Int) - intOf vk).toNat)
    case atStart => exact ⟨0, rfl, by omega, by omega, HM, HB, HK⟩
    case round =>
    clear HM HB HK
    obtain ⟨k, rfl, k0, kn, HM, HB, HK⟩ := hrel
    have o1 : wr.cell? ⟨p, x.toNat, none⟩ = some (.slice A nv cv) := by rw [← HA.out.1]; exact cell_row (HK.out.kept p _ HOUT.out.1 (fun cs fr h => by simp at h)) (HOUT.out.2 _ hx)
    by_cases c3 : k < (nv : Int)
    · have q3 : decide (k < (nv : Int)) = true := decide_eq_true c3
      have k0' := eq_true k0
      have c3' := eq_true c3
      obtain ⟨g, hg⟩ : ∃ g, A = some ⟨g, 0, none⟩ := by
        obtain ⟨L, hM, hBG⟩ := HM.out
        have hxl : x.toNat < L.length := by rw [hM.len]; exact hx
        have h1 := (hBG.ok x.toNat (by rw [List.length_map]; exact hxl)).rv
        simp only [List.getElem_map] at h1
        have h2 : Row encE 3 w0.heap.size 41 wr L[x.toNat].1 L[x.toNat].2 := h1
        rw [hM.v x.toNat hx, HA.out.1] at h2
        rcases h2.shape with ⟨h3, _⟩ | ⟨g, cap, h3, _⟩
        · simp only [Value.slice.injEq] at h3; omega
        · simp only [Value.slice.injEq] at h3; exact ⟨g, h3.1⟩
      subst hg
      have KM : Hid (∀ V, Below wr.heap.size wr V → Calls Tryz.prog 26 #[.int .i64 (-1000000 - x)] V fun e w' => e = .returned (.string (markB (-1000000 - x))) ∧ Below V.heap.size V w') :=
        Lib.hid fun V hb => mark_calls (-1000000 - x) V (by omega) (by omega) (HE.out.below (below_step HB.out hb))
      obtain ⟨nm, hnm⟩ : ∃ b, markB (-1000000 - x) = b := ⟨_, rfl⟩
      have HPUT : Hid (∀ V, Below wr.heap.size wr V → ((∃ u, V.cell? ⟨g, k.toNat * 3, none⟩ = some u) ∧ (∃ u, V.cell? ⟨g, k.toNat * 3 + 1, none⟩ = some u) ∧ (∃ u, V.cell? ⟨g, k.toNat * 3 + 2, none⟩ = some u) ∧
          V.frozen? ⟨g, k.toNat * 3, none⟩ = false ∧ V.frozen? ⟨g, k.toNat * 3 + 1, none⟩ = false ∧ V.frozen? ⟨g, k.toNat * 3 + 2, none⟩ = false) ∧
          (∃ L, Marking L0 x.toNat (k + 1).toNat L ∧ BagE w0 (((V.setCell ⟨g, k.toNat * 3, none⟩ (.int .i8 0)).setCell ⟨g, k.toNat * 3 + 1, none⟩ (.string ⟨#[]⟩)).setCell ⟨g, k.toNat * 3 + 2, none⟩ (.string nm)) (L.map fun x => start x.1 x.2)) ∧
          Below w0.heap.size w0 (((V.setCell ⟨g, k.toNat * 3, none⟩ (.int .i8 0)).setCell ⟨g, k.toNat * 3 + 1, none⟩ (.string ⟨#[]⟩)).setCell ⟨g, k.toNat * 3 + 2, none⟩ (.string nm)) ∧
          KeptBut 41 W (((V.setCell ⟨g, k.toNat * 3, none⟩ (.int .i8 0)).setCell ⟨g, k.toNat * 3 + 1, none⟩ (.string ⟨#[]⟩)).setCell ⟨g, k.toNat * 3 + 2, none⟩ (.string nm))) := Lib.hid fun V hb => by
        obtain ⟨L, hM, hBG⟩ := HM.out
        have hxl : x.toNat < L.length := by rw [hM.len]; exact hx
        have hi : L[x.toNat]? = some (L[x.toNat].1, L[x.toNat].2) := List.getElem?_eq_getElem hxl
        have hlen : L[x.toNat].2.length = nv := by rw [hM.n x.toNat hx, HA.out.2]
        obtain ⟨a1, a2, a3, a4, a5, a6, a7⟩ := putE (hBG.below hb) hi (g := g) (cap := cv) (by rw [hM.v x.toNat hx, HA.out.1, hlen]) k0 (by rw [hlen]; exact c3)
        obtain ⟨b1, b2, b3, cs', b4⟩ := a7 (mk1 x)
        have hmp := hM.put hi
        rw [hxx] at hmp
        have e3 : (mk1 x).f1.f1 = nm := hnm
        rw [e3] at b1 b2
        refine ⟨⟨a1, a2, a3, a4, a5, a6⟩, ⟨_, ?_, b1⟩, below_grownO (below_step HB.out hb) (Nat.le_refl _) b2 (fun b h => by cases h; exact b3), (HK.out.step hb).trans (KeptBut.grown b4 b2)⟩
        rw [show (k + 1).toNat = k.toNat + 1 by omega]; exact hmp
      have O1 := Lib.hid o1
      rw [hnm] at KM
      have d1 : wr.drew.cell? ⟨p, x.toNat, none⟩ = some (.slice (some ⟨g, 0, none⟩) nv cv) := o1
      have hw1 : IntKind.i64.wrap (-1000000 - x) = -1000000 - x := by rw [IntKind.wrap_i64]; omega
      clear hnm HM
      go_upto_region 7 with fail
      go_region_with (go_at_call 26; refine (KM.out _ (by repeat (first | exact Below.refl _ _ | apply below_alloc | apply below_drew))).mono ?_; rintro e w2 ⟨rfl, hB⟩; have hbw : Below wr.heap.size wr w2 := below_step (by repeat (first | exact Below.refl _ _ | apply below_alloc | apply below_drew)) hB; have e1 := pw_cell_below hbw O1.out; obtain ⟨⟨⟨t0, s0⟩, ⟨t1, s1⟩, ⟨t2, s2⟩, f0, f1, f2⟩, hnx⟩ := HPUT.out w2 hbw; have HNX := Lib.hid hnx; clear hnx)
      all_goals (
        clear s0 s1 s2 f0 f1 f2 e1 d1 o1 KM HPUT
        go_wp2
        exact ⟨⟨k + 1, rfl, by omega, by omega, Lib.hid HNX.out.1, Lib.hid HNX.out.2.1, Lib.hid HNX.out.2.2⟩, by simp [intOf]; omega⟩)
    · have q3 : decide (k < (nv : Int)) = false := decide_eq_false c3
      go_wp2
      go_roundw
      case measure => simp [intOf]; omega
      case rel =>
        refine ⟨x + 1, rfl, by omega, by omega, Lib.hid ?_, HB, HK⟩
        obtain ⟨L, hM, hBG⟩ := HM.out
        rw [show (x + 1).toNat = x.toNat + 1 by omega]
        exact ⟨L, hM.next (fun hj => by rw [← HA.out.2]; omega), hBG⟩
  · have q2 : decide (x < (n : Int)) = false := decide_eq_false c2
    obtain ⟨L, hM, hBG⟩ := HM.out
    have hlen : L.length = n := by rw [hM.len, HN.out]
    have hout2 := HK.out.kept p _ HOUT.out.1 (fun cs fr h => by simp at h)
    have hcs2 : ∀ j (hj : j < L.length), cs[j]? = some L[j].1 := fun j hj => by rw [hM.v j (by rw [← hM.len]; exact hj)]; exact HOUT.out.2 j _
    have hmk2 : ∀ j (hj : j < L.length), L[j].2 = List.replicate L[j].2.length (mk1 j) := fun j hj => by
      have hj0 : j < L0.length := by rw [← hM.len]; exact hj
      have h1 := hM.done j hj0 (by rw [HN.out] at hj0; omega)
      rw [h1]; simp
    have hsm2 : ∀ j (hj : j < L.length), L[j].2.length ≤ 4294967296 := fun j hj => by rw [hM.n j (by rw [← hM.len]; exact hj)]; exact HSM.out j _
    have K1 := grownE_calls w0 wr p cp 1 L cs HB.out (by omega) (by omega) (by omega) hout2 hcs2 hmk2 hsm2 hBG HE.out
    rw [hlen] at K1
    have K1 := Lib.hid K1
    have HALL := Lib.hid (And.intro hcs2 (And.intro hmk2 (And.intro hsm2 (And.intro hlen hout2))))
    clear hM hBG hout2 hcs2 hmk2 hsm2 hlen HM
    go_wp2_with fail
    refine K1.out.mono ?_
    rintro e w3 ⟨rfl, hBG3, hB3, hK3⟩
    have K2 := grownE_calls w0 w3 p cp 24 L cs hB3 (by omega) (by have := HALL.out.2.2.2.1; omega) (by have := HALL.out.2.2.2.1; omega) (hK3.kept p _ HALL.out.2.2.2.2 (fun cs fr h => by simp at h)) HALL.out.1 HALL.out.2.1 HALL.out.2.2.1 hBG3 HE.out
    rw [HALL.out.2.2.2.1] at K2
    have K2 := Lib.hid K2
    have HK3 := Lib.hid (HK.out.trans hK3)
    clear hBG3 hB3 hK3 K1
    go_wp2_with fail
    refine K2.out.mono ?_
    rintro e w4 ⟨rfl, hBG4, hB4, hK4⟩
    have HB4 := Lib.hid hB4
    have HK4 := Lib.hid (HK3.out.trans hK4)
    clear hBG4 hB4 hK4 K2
    go_wp2
    go_ret
    exact ⟨rfl, HB4.out, HK4.out⟩
end Go.Proofs.YtgjgafibipepeaaGreatDoor.Bag
