import Derived.Test.YtfkbknkmanphfaaF0
import Derived.Deep.DeepCutAuto
import Derived.StillTailTactics
namespace Go.Proofs.Ytfkbknkmanphfaa.Q
open Go.RowKit Go.Proofs.YtfkbknkmanphfaaW.PrintWords Go.Sort
set_option linter.unusedVariables false
set_option linter.unusedSimpArgs false

/-- A slice of ints that reads as xs -/
def Rd (w : World) (A : Option Addr) (xs : List Int) : Prop := xs.length ≤ 9223372036854775807 ∧ (0 < xs.length → ∃ a, A = some a ∧ ∀ i, i < xs.length → w.cell? (a.add i) = some (.int .i64 (xs.getD i 0)))
def NewPost (w : World) (ws gs : List Int) (e : Ending) (w' : World) : Prop :=
  Below w.heap.size w w' ∧ ((Valid ws gs ∧ ∃ b, e = .returned (.tuple #[.pointer (some ⟨b, 0, none⟩), .int .i64 0]) ∧ w.heap.size ≤ b ∧ Sys w' b ws gs) ∨ (¬ Valid ws gs ∧ e = .returned (.tuple #[.pointer none, .int .i64 200])))

/-- a System whose memory lies at block L and above -/
structure SysLo (L : Nat) (w : World) (b : Nat) (ws gs : List Int) : Prop where
  v : Valid ws gs
  mem : ∃ (aw ag : Addr) (cw cg : Nat), L ≤ b ∧ L ≤ aw.block ∧ L ≤ ag.block ∧ w.cell? ⟨b, 0, none⟩ = some (.slice (some aw) ws.length cw) ∧ w.cell? ⟨b, 1, none⟩ = some (.slice (some ag) ws.length cg) ∧
    (∀ g : Nat, g < 7 → w.cell? ⟨b, 2 + g, none⟩ = some (.int .i64 (wsum ws gs (fun _ => true) g ws.length))) ∧ w.cell? ⟨b, 9, none⟩ = some (.int .i64 (cntTo ws gs 7)) ∧
    (∀ i, i < ws.length → w.cell? (aw.add i) = some (.int .i64 (ws.getD i 0))) ∧ (∀ i, i < ws.length → w.cell? (ag.add i) = some (.int .i64 (gs.getD i 0)))
theorem SysLo.sys {L : Nat} {w : World} {b : Nat} {ws gs : List Int} (h : SysLo L w b ws gs) : Sys w b ws gs := by
  obtain ⟨v, aw, ag, cw, cg, _, _, _, h0, h1, h2, h3, h4, h5⟩ := h
  exact ⟨v, aw, ag, cw, cg, h0, h1, h2, h3, h4, h5⟩
def NewPostL (w : World) (ws gs : List Int) (e : Ending) (w' : World) : Prop :=
  Below w.heap.size w w' ∧ ((Valid ws gs ∧ ∃ b, e = .returned (.tuple #[.pointer (some ⟨b, 0, none⟩), .int .i64 0]) ∧ w.heap.size ≤ b ∧ SysLo w.heap.size w' b ws gs) ∨ (¬ Valid ws gs ∧ e = .returned (.tuple #[.pointer none, .int .i64 200])))

theorem new_len (Aw Ag : Option Addr) (cw cg : Nat) (ws gs : List Int) (w : World) (hw : Rd w Aw ws) (hg : Rd w Ag gs) (hl : ¬ (1 ≤ ws.length ∧ ws.length ≤ 7 ∧ gs.length = ws.length)) :
    Calls Try.prog 9 #[.slice Aw ws.length cw, .slice Ag gs.length cg] w (NewPost w ws gs) := by
  have HN : Hid (¬ Valid ws gs) := Lib.hid (fun v => hl ⟨v.pos, v.le7, v.len⟩)
  obtain ⟨m1, -⟩ := hw
  obtain ⟨m2, -⟩ := hg
  by_cases h1 : ws.length < 1
  · go_enter Try.func9, Try.ntmps9
    go_wp2
    go_ret2
    exact ⟨Below.refl _ _, .inr ⟨HN.out, rfl⟩⟩
  · by_cases h2 : 7 < ws.length
    · go_enter Try.func9, Try.ntmps9
      go_wp2
      go_ret2
      exact ⟨Below.refl _ _, .inr ⟨HN.out, rfl⟩⟩
    · have h3 : ((gs.length : Int) != (ws.length : Int)) = true := by rw [bne_iff_ne]; omega
      go_enter Try.func9, Try.ntmps9
      go_wp2
      go_ret2
      exact ⟨Below.refl _ _, .inr ⟨HN.out, rfl⟩⟩

def cntG (ws gs : List Int) (k : Nat) : Nat → Int
  | 0 => 0
  | g + 1 => cntG ws gs k g + if 0 < wsum ws gs (fun _ => true) g k then 1 else 0
theorem cntG_eq (ws gs : List Int) (g : Nat) : cntG ws gs ws.length g = cntTo ws gs g := by
  induction g with
  | zero => rfl
  | succ g ih => simp only [cntG, cntTo, ih]
theorem cntG_bd (ws gs : List Int) (k g : Nat) : 0 ≤ cntG ws gs k g ∧ cntG ws gs k g ≤ g := by
  induction g with
  | zero => simp [cntG]
  | succ g ih => simp only [cntG]; split <;> (push_cast; omega)
theorem wsum_nn (ws gs : List Int) (S : Nat → Bool) (g : Int) (k : Nat) (h : ∀ i, i < k → 0 ≤ ws.getD i 0 ∧ ws.getD i 0 ≤ 100) : 0 ≤ wsum ws gs S g k ∧ wsum ws gs S g k ≤ 100 * k := by
  induction k with
  | zero => simp [wsum]
  | succ k ih =>
    have i1 := ih (fun i hi => h i (by omega))
    have i2 := h k (by omega)
    simp only [wsum]
    split <;> (push_cast; omega)
theorem cnt_step (a y : Int) (ha : 0 ≤ a) (hy : 0 ≤ y) : (if 0 < a + y then (1 : Int) else 0) = (if 0 < a then 1 else 0) + if a = 0 ∧ 0 < y then 1 else 0 := by
  by_cases h1 : 0 < a
  · rw [if_pos h1, if_pos (by omega), if_neg (by omega)]; rfl
  · by_cases h2 : 0 < y
    · rw [if_neg h1, if_pos (by omega), if_pos (by omega)]; rfl
    · rw [if_neg h1, if_neg (by omega), if_neg (by omega)]; rfl
theorem wsum_other (ws gs : List Int) (k : Nat) (g : Nat) (G : Nat) (hg : gs.getD k 0 = g) (hG : G ≠ g) : wsum ws gs (fun _ => true) G (k + 1) = wsum ws gs (fun _ => true) G k := by
  simp only [wsum]
  rw [if_neg (fun h => hG (by have := h.1; omega))]
  omega
theorem wsum_same (ws gs : List Int) (k : Nat) (g : Nat) (hg : gs.getD k 0 = g) : wsum ws gs (fun _ => true) g (k + 1) = wsum ws gs (fun _ => true) g k + ws.getD k 0 := by
  simp only [wsum]
  rw [if_pos (And.intro hg trivial)]
theorem cntG_low (ws gs : List Int) (k G : Nat) (g : Nat) (hg : gs.getD k 0 = g) (hG : G ≤ g) : cntG ws gs (k + 1) G = cntG ws gs k G := by
  induction G with
  | zero => rfl
  | succ G ih => simp only [cntG]; rw [ih (by omega), wsum_other ws gs k g G hg (by omega)]
theorem cntG_step (ws gs : List Int) (k G : Nat) (g : Nat) (hg : gs.getD k 0 = g) (hG : g < G) (hn : 0 ≤ wsum ws gs (fun _ => true) g k) (hy : 0 ≤ ws.getD k 0) :
    cntG ws gs (k + 1) G = cntG ws gs k G + if wsum ws gs (fun _ => true) g k = 0 ∧ 0 < ws.getD k 0 then 1 else 0 := by
  induction G with
  | zero => omega
  | succ G ih =>
    simp only [cntG]
    by_cases e : g = G
    · subst e
      rw [cntG_low ws gs k g g hg (Nat.le_refl _), wsum_same ws gs k g hg, cnt_step _ _ hn hy, Int.add_assoc]
    · rw [ih (by omega), wsum_other ws gs k g G hg (by omega), Int.add_right_comm]

def sysArr (v1 v2 : Value) (F : Nat → Int) (c : Int) : Array Value := #[v1, v2, .int .i64 (F 0), .int .i64 (F 1), .int .i64 (F 2), .int .i64 (F 3), .int .i64 (F 4), .int .i64 (F 5), .int .i64 (F 6), .int .i64 c]
theorem sysArr_get (v1 v2 : Value) (F : Nat → Int) (c : Int) (g : Nat) (hg : g < 7) : (sysArr v1 v2 F c)[2 + g]? = some (.int .i64 (F g)) := by
  have : g = 0 ∨ g = 1 ∨ g = 2 ∨ g = 3 ∨ g = 4 ∨ g = 5 ∨ g = 6 := by omega
  rcases this with rfl | rfl | rfl | rfl | rfl | rfl | rfl <;> rfl
theorem sysArr_set (v1 v2 : Value) (F F' : Nat → Int) (c : Int) (g : Nat) (v : Int) (hg : g < 7) (h1 : F' g = v) (h2 : ∀ j, j ≠ g → F' j = F j) : (sysArr v1 v2 F c).setIfInBounds (2 + g) (.int .i64 v) = sysArr v1 v2 F' c := by
  have : g = 0 ∨ g = 1 ∨ g = 2 ∨ g = 3 ∨ g = 4 ∨ g = 5 ∨ g = 6 := by omega
  rcases this with rfl | rfl | rfl | rfl | rfl | rfl | rfl
  · simp [sysArr, h1, h2 1, h2 2, h2 3, h2 4, h2 5, h2 6]
  · simp [sysArr, h1, h2 0, h2 2, h2 3, h2 4, h2 5, h2 6]
  · simp [sysArr, h1, h2 0, h2 1, h2 3, h2 4, h2 5, h2 6]
  · simp [sysArr, h1, h2 0, h2 1, h2 2, h2 4, h2 5, h2 6]
  · simp [sysArr, h1, h2 0, h2 1, h2 2, h2 3, h2 5, h2 6]
  · simp [sysArr, h1, h2 0, h2 1, h2 2, h2 3, h2 4, h2 6]
  · simp [sysArr, h1, h2 0, h2 1, h2 2, h2 3, h2 4, h2 5]
theorem sysArr_setc (v1 v2 : Value) (F : Nat → Int) (c c' : Int) : (sysArr v1 v2 F c).setIfInBounds 9 (.int .i64 c') = sysArr v1 v2 F c' := by simp [sysArr]

theorem infoI : (Try.prog.info? 3).map (fun i => (i.zero, i.size, i.bytes)) = some (some (.int .i64 0), 1, 8) := by kernel_rfl

theorem own_form {w : World} {base e : Nat} {v : Value} {n : Nat} {xs : List Value} (h : w.ownsRow base e 1 v (0 + n) ([] ++ xs)) (hn : 0 < n) :
    ∃ g c, v = .slice (some ⟨g, 0, none⟩) n c ∧ base ≤ g ∧ g < w.heap.size ∧ ∀ j u, xs[j]? = some u → w.cell? ((⟨g, 0, none⟩ : Addr).add j) = some u := by
  obtain ⟨g, c, hv, hb, -⟩ := h.form (by omega)
  refine ⟨g, c, by rw [hv]; congr 1; omega, hb, (h.lt g (by rw [hv]; rfl)).2, fun j u hu => h.cells (by rw [hv]; rfl) j u (by simpa using hu)⟩

theorem map_at (xs : List Int) : ∀ i, i < xs.length → (xs.map (Value.int .i64))[i]? = some (.int .i64 (xs.getD i 0)) := fun i hi => by
  simp [List.getElem?_map, List.getElem?_eq_getElem hi, List.getD_eq_getElem?_getD]
def tblL (F : Nat → Int) : List Value := [.int .i64 (F 0), .int .i64 (F 1), .int .i64 (F 2), .int .i64 (F 3), .int .i64 (F 4), .int .i64 (F 5), .int .i64 (F 6)]
theorem sys_range {w : World} {b : Nat} {v1 v2 : Value} {F : Nat → Int} {c : Int} (h : w.heap[b]? = some (.cells (sysArr v1 v2 F c) 66 (0, 0))) : w.rangeAt b 2 (tblL F) := by
  have e : ((sysArr v1 v2 F c).extract 2 (2 + 7)).toList = tblL F := by simp [sysArr, tblL]
  have := World.rangeAt_of_block h 2 7
  rwa [e] at this
def allZero (F : Nat → Int) : Bool := (F 0 == 0 && (F 1 == 0 && (F 2 == 0 && (F 3 == 0 && (F 4 == 0 && (F 5 == 0 && F 6 == 0))))))
theorem cntTo_low (ws gs : List Int) (n : Nat) : (cntTo ws gs n = 0 ↔ ∀ g : Nat, g < n → ¬ 0 < wsum ws gs (fun _ => true) g ws.length) := by
  induction n with
  | zero => simp [cntTo]
  | succ n ih =>
    have bd := cntTo_bd ws gs n
    simp only [cntTo]
    constructor
    · intro h g hg
      by_cases c : 0 < wsum ws gs (fun _ => true) n ws.length
      · rw [if_pos c] at h; omega
      · rw [if_neg c] at h
        by_cases e : g = n
        · subst e; exact c
        · exact ih.1 (by omega) g (by omega)
    · intro h
      rw [if_neg (h n (by omega)), ih.2 (fun g hg => h g (by omega))]; rfl
theorem cntTo_zero (ws gs : List Int) (h : cntTo ws gs 7 = 0) (nn : ∀ g : Nat, 0 ≤ wsum ws gs (fun _ => true) g ws.length) : allZero (fun g : Nat => wsum ws gs (fun _ => true) g ws.length) = true := by
  have k := (cntTo_low ws gs 7).1 h
  have z : ∀ g : Nat, g < 7 → wsum ws gs (fun _ => true) g ws.length = 0 := fun g hg => by have := k g hg; have := nn g; omega
  unfold allZero
  dsimp only
  rw [z 0 (by omega), z 1 (by omega), z 2 (by omega), z 3 (by omega), z 4 (by omega), z 5 (by omega), z 6 (by omega)]; rfl
theorem cntTo_nz (ws gs : List Int) (h : cntTo ws gs 7 ≠ 0) (nn : ∀ g : Nat, 0 ≤ wsum ws gs (fun _ => true) g ws.length) : allZero (fun g : Nat => wsum ws gs (fun _ => true) g ws.length) = false := by
  cases hz : allZero (fun g : Nat => wsum ws gs (fun _ => true) g ws.length) with
  | false => rfl
  | true =>
    refine absurd ((cntTo_low ws gs 7).2 ?_) h
    unfold allZero at hz
    simp only [Bool.and_eq_true, beq_iff_eq] at hz
    obtain ⟨z0, z1, z2, z3, z4, z5, z6⟩ := hz
    intro g hg
    have : g = 0 ∨ g = 1 ∨ g = 2 ∨ g = 3 ∨ g = 4 ∨ g = 5 ∨ g = 6 := by omega
    rcases this with rfl | rfl | rfl | rfl | rfl | rfl | rfl <;> omega

set_option maxHeartbeats 2000000 in
theorem new_okL (aw ag : Addr) (cw cg : Nat) (ws gs : List Int) (w : World) (hw : ∀ i, i < ws.length → w.cell? (aw.add i) = some (.int .i64 (ws.getD i 0))) (hg : ∀ i, i < ws.length → w.cell? (ag.add i) = some (.int .i64 (gs.getD i 0)))
    (h1 : 1 ≤ ws.length) (h7 : ws.length ≤ 7) (hl : gs.length = ws.length) :
    Calls Try.prog 9 #[.slice (some aw) ws.length cw, .slice (some ag) ws.length cg] w (NewPostL w ws gs) := by
  have HW := Lib.hid hw
  have HG := Lib.hid hg
  clear hw hg
  have hne : ((ws.length : Int) != (ws.length : Int)) = false := by simp
  obtain ⟨i0, hi, hz0, hz1, hz2⟩ := info_parts infoI
  have HL := Lib.hid hl
  clear hl
  have N1 : Hid (∀ j u, (ws.map (Value.int .i64))[j]? = some u → w.cell? (aw.add j) = some u) := Lib.hid (fun j u hu => by
    have hj : j < ws.length := by have := (List.getElem?_eq_some_iff.1 hu).1; simpa using this
    rw [HW.out j hj]
    simp [List.getElem?_map, List.getElem?_eq_getElem hj] at hu
    simp [List.getD_eq_getElem?_getD, List.getElem?_eq_getElem hj, hu])
  have N2 : Hid (∀ j u, (gs.map (Value.int .i64))[j]? = some u → w.cell? (ag.add j) = some u) := Lib.hid (fun j u hu => by
    have hj : j < gs.length := by have := (List.getElem?_eq_some_iff.1 hu).1; simpa using this
    rw [HG.out j (by have := HL.out; omega)]
    simp [List.getElem?_map, List.getElem?_eq_getElem hj] at hu
    simp [List.getD_eq_getElem?_getD, List.getElem?_eq_getElem hj, hu])
  have O1 := World.ownsRow_nil w w.heap.size 3 1
  go_enter Try.func9, Try.ntmps9
  go_wp2_with (first
    | (at_builtin; refine wpList_append_own _ rfl (.const (.slice none 0 0)) (.tmp 24) 22 rfl w.heap.size 3 i0 (.int .i64 0) 1 8 Try.underlying22 hi hz0 hz1 hz2 rfl (by decide) (.slice none 0 0) 0 [] rfl O1 aw ws.length cw (ws.map (Value.int .i64)) rfl ?l1 N1.out ?o1 ?m1 ?b1 ?s1 ?_; (case l1 => simp); (case o1 => simp [Value.oneCell']); (case m1 => (unfold maxLen; omega)); (case b1 => omega); (case s1 => exact Nat.le_refl _); intro v1 w1 hown1 hg1 _; obtain ⟨g1, c1, hv1, hb1, hlt1, hc1⟩ := own_form hown1 (by omega); rw [hv1]; have HB1 : Hid (Below w.heap.size w w1) := Lib.hid ⟨hg1.os, hg1.tape, hg1.output, hg1.size, fun k hk => hg1.block k hk (by simp [Value.ownBlock])⟩; have HC1 := Lib.hid hc1; have HL1 := Lib.hid (And.intro hb1 hlt1); clear hown1 hg1 hv1 hb1 hlt1 hc1 O1; have O2 := World.ownsRow_nil w1 w.heap.size 3 1)
    | (at_builtin; refine wpList_append_own _ rfl (.const (.slice none 0 0)) (.tmp 26) 22 rfl w.heap.size 3 i0 (.int .i64 0) 1 8 Try.underlying22 hi hz0 hz1 hz2 rfl (by decide) (.slice none 0 0) 0 [] rfl O2 ag ws.length cg (gs.map (Value.int .i64)) rfl ?l1 (fun j u hu => pw_cell_below HB1.out (N2.out j u hu)) ?o1 ?m1 ?b1 ?s1 ?_; (case l1 => have := HL.out; simp; omega); (case o1 => simp [Value.oneCell']); (case m1 => (unfold maxLen; omega)); (case b1 => omega); (case s1 => exact HB1.out.size); intro v2 w2 hown2 hg2 _; obtain ⟨g2, c2, hv2, hb2, hlt2, hc2⟩ := own_form hown2 (by omega); rw [hv2]; have HB2 : Hid (Below w1.heap.size w1 w2) := Lib.hid ⟨hg2.os, hg2.tape, hg2.output, hg2.size, fun k hk => hg2.block k hk (by simp [Value.ownBlock])⟩; have HC2 := Lib.hid hc2; have HL2 := Lib.hid (And.intro hb2 hlt2); clear hown2 hg2 hv2 hb2 hlt2 hc2 O2))
  have E0 : Hid ((w2.alloc (.cells #[.slice (some ⟨g1, 0, none⟩) ws.length c1, .slice (some ⟨g2, 0, none⟩) ws.length c2, .int .i64 0, .int .i64 0, .int .i64 0, .int .i64 0, .int .i64 0, .int .i64 0, .int .i64 0, .int .i64 0] 66)).heap[w2.heap.size]? = some (.cells (sysArr (.slice (some ⟨g1, 0, none⟩) ws.length c1) (.slice (some ⟨g2, 0, none⟩) ws.length c2) (fun g => wsum ws gs (fun _ => true) g 0) (cntG ws gs 0 7)) 66 (0, 0))) := Lib.hid (heap_alloc_new w2 _)
  go_loopw [32] (fun v wr => ∃ k : Nat, k ≤ ws.length ∧ v = .int .i64 k ∧ Hid (∀ i, i < k → (0 ≤ ws.getD i 0 ∧ ws.getD i 0 ≤ 100) ∧ 0 ≤ gs.getD i 0 ∧ gs.getD i 0 < 7) ∧ Hid (wr.heap[w2.heap.size]? = some (.cells (sysArr (.slice (some ⟨g1, 0, none⟩) ws.length c1) (.slice (some ⟨g2, 0, none⟩) ws.length c2) (fun g => wsum ws gs (fun _ => true) g k) (cntG ws gs k 7)) 66 (0, 0))) ∧ Hid (Below w2.heap.size w2 wr)) (fun v _ => ws.length - (intOf v).toNat)
  case atStart => exact ⟨0, by omega, rfl, Lib.hid (fun i hi => by omega), E0, Lib.hid (below_alloc (Below.refl _ _) _)⟩
  case round =>
    obtain ⟨k, hk, rfl, HV, HT, HB⟩ := hrel
    clear E0 N1 N2
    have HA : Hid (Below w.heap.size w wr) := Lib.hid (below_then (below_then HB1.out HB1.out.size HB2.out) (by have := HB1.out.size; have := HB2.out.size; omega) HB.out)
    by_cases hlt : k < ws.length
    · have ca := pw_cell_below HA.out (HW.out k hlt)
      have cg0 := pw_cell_below HA.out (HG.out k hlt)
      have bad : Hid (¬ ((0 ≤ ws.getD k 0 ∧ ws.getD k 0 ≤ 100) ∧ 0 ≤ gs.getD k 0 ∧ gs.getD k 0 < 7) → NewPostL w ws gs (.returned (.tuple #[.pointer none, .int .i64 200])) wr) := Lib.hid (fun hn => ⟨HA.out, .inr ⟨fun v => hn ⟨v.wr k hlt, v.gr k (by have := v.len; omega)⟩, rfl⟩⟩)
      have nn := wsum_nn ws gs (fun _ => true)
      have HNN := Lib.hid nn
      clear nn
      obtain ⟨y, hy⟩ : ∃ y, ws.getD k 0 = y := ⟨_, rfl⟩
      obtain ⟨z, hz⟩ : ∃ z, gs.getD k 0 = z := ⟨_, rfl⟩
      rw [hy] at ca bad
      rw [hz] at cg0 bad
      have HY := Lib.hid hy
      have HZ := Lib.hid hz
      clear hy hz
      by_cases y0 : y < 0
      · go_wp2
        go_ret2
        exact bad.out (by omega)
      by_cases y1 : 100 < y
      · go_wp2
        go_ret2
        exact bad.out (by omega)
      by_cases z0 : z < 0
      · go_wp2
        go_ret2
        exact bad.out (by omega)
      by_cases z1 : 7 ≤ z
      · go_wp2
        go_ret2
        exact bad.out (by omega)
      obtain ⟨g, rfl⟩ := Int.eq_ofNat_of_zero_le (show 0 ≤ z by omega)
      have g7 : g < 7 := by omega
      have ct := (cell_of_row wr w2.heap.size (2 + g) _ _ _ HT.out).trans (sysArr_get _ _ _ _ g g7)
      have bd := HNN.out g k (fun i hi => (HV.out i hi).1)
      have HBD := Lib.hid bd
      have HV2 : Hid (∀ i, i < k + 1 → (0 ≤ ws.getD i 0 ∧ ws.getD i 0 ≤ 100) ∧ 0 ≤ gs.getD i 0 ∧ gs.getD i 0 < 7) := Lib.hid (fun i hi => by
        by_cases e : i = k
        · subst e; rw [HY.out, HZ.out]; omega
        · exact HV.out i (by omega))
      have ctn : Hid (cntG ws gs (k + 1) 7 = cntG ws gs k 7 + if wsum ws gs (fun _ => true) g k = 0 ∧ 0 < ws.getD k 0 then 1 else 0) := Lib.hid (cntG_step ws gs k 7 g HZ.out g7 HBD.out.1 (by rw [HY.out]; omega))
      have wsn : Hid (∀ j : Nat, wsum ws gs (fun _ => true) j (k + 1) = wsum ws gs (fun _ => true) j k + if j = g then y else 0) := Lib.hid (fun j => by
        by_cases e : j = g
        · subst e; rw [wsum_same ws gs k j HZ.out, HY.out, if_pos rfl]
        · rw [wsum_other ws gs k g j HZ.out e, if_neg e, Int.add_zero])
      have cbd := cntG_bd ws gs k 7
      obtain ⟨F, hF⟩ : ∃ F : Nat → Int, (fun g : Nat => wsum ws gs (fun _ => true) g k) = F := ⟨_, rfl⟩
      obtain ⟨F', hF'⟩ : ∃ F : Nat → Int, (fun g : Nat => wsum ws gs (fun _ => true) g (k + 1)) = F := ⟨_, rfl⟩
      have hFg : wsum ws gs (fun _ => true) g k = F g := by rw [← hF]
      have hF1 : F' g = F g + y := by rw [← hF, ← hF']; dsimp only; rw [wsn.out g, if_pos rfl]
      have hF2 : ∀ j, j ≠ g → F' j = F j := fun j hj => by rw [← hF, ← hF']; dsimp only; rw [wsn.out j, if_neg hj, Int.add_zero]
      have HT1 := HT.out
      rw [hF] at HT1
      rw [hFg] at ct ctn bd
      rw [HY.out] at ctn
      have HF' := Lib.hid hF'
      have HS1 := Lib.hid hF1
      have HS2 := Lib.hid hF2
      have HT2 := Lib.hid HT1
      clear hF hF' hF1 hF2 hFg HT1 HT wsn
      have HBF := Lib.hid bd
      obtain ⟨t, htt⟩ : ∃ x, F g = x := ⟨_, rfl⟩
      rw [htt] at ct ctn bd
      have HTT := Lib.hid htt
      clear htt
      generalize cntG ws gs k 7 = c at *
      by_cases ht : t = 0 ∧ 0 < y
      · have e1 : (t == 0) = true := by rw [beq_iff_eq]; exact ht.1
        have e2 : decide (0 < y) = true := decide_eq_true ht.2
        rw [if_pos ht] at ctn
        have tz : t = 0 := ht.1
        have yp := ht.2
        clear ht
        go_wp2
        go_quiet (fail)
        have c9 : (wr.drewN nq).cell? ⟨w2.heap.size, 9, none⟩ = some (.int .i64 c) := (cell_of_row (wr.drewN nq) w2.heap.size 9 _ _ _ HT2.out).trans rfl
        have f9 : (wr.drewN nq).frozen? ⟨w2.heap.size, 9, none⟩ = false := frozen_of_row (wr.drewN nq) w2.heap.size 9 _ _ HT2.out
        have H3 : Hid (((wr.drewN nq).setCell ⟨w2.heap.size, 9, none⟩ (.int .i64 (c + 1))).heap[w2.heap.size]? = some (.cells (sysArr (.slice (some ⟨g1, 0, none⟩) ws.length c1) (.slice (some ⟨g2, 0, none⟩) ws.length c2) F (c + 1)) 66 (0, 0))) := Lib.hid (by
          rw [heap_setCell_same _ _ _ _ _ _ (show (wr.drewN nq).heap[w2.heap.size]? = _ from HT2.out), sysArr_setc])
        have B3 : Hid (Below w2.heap.size w2 ((wr.drewN nq).setCell ⟨w2.heap.size, 9, none⟩ (.int .i64 (c + 1)))) := Lib.hid ((pw_below_drewN HB.out nq).setCell (Nat.le_refl _) _)
        clear ct ca cg0
        obtain ⟨cb0, cb1⟩ := cbd
        go_upto_region 11 with (fail)
        generalize (wr.drewN nq).setCell ⟨w2.heap.size, 9, none⟩ (.int .i64 (c + 1)) = W5 at *
        have HA5 : Hid (Below w.heap.size w W5) := Lib.hid (below_then (below_then HB1.out HB1.out.size HB2.out) (by have := HB1.out.size; have := HB2.out.size; omega) B3.out)
        have cg5 : W5.cell? (ag.add k) = some (.int .i64 (g : Int)) := (pw_cell_below HA5.out (HG.out k hlt)).trans (by rw [HZ.out])
        have ct5 : W5.cell? ⟨w2.heap.size, 2 + g, none⟩ = some (.int .i64 (F g)) := (cell_of_row W5 w2.heap.size (2 + g) _ _ _ H3.out).trans (sysArr_get _ _ _ _ g g7)
        have cf5 : W5.frozen? ⟨w2.heap.size, 2 + g, none⟩ = false := frozen_of_row W5 w2.heap.size (2 + g) _ _ H3.out
        have bdF := HBF.out
        have H6 : Hid ((W5.drew.setCell ⟨w2.heap.size, 2 + g, none⟩ (.int .i64 (F g + y))).heap[w2.heap.size]? = some (.cells (sysArr (.slice (some ⟨g1, 0, none⟩) ws.length c1) (.slice (some ⟨g2, 0, none⟩) ws.length c2) F' (c + 1)) 66 (0, 0))) := Lib.hid (by
          rw [heap_setCell_same _ _ _ _ _ _ (show W5.drew.heap[w2.heap.size]? = _ from H3.out), sysArr_set _ _ F F' _ g _ g7 HS1.out HS2.out])
        have B6 : Hid (Below w2.heap.size w2 (W5.drew.setCell ⟨w2.heap.size, 2 + g, none⟩ (.int .i64 (F g + y)))) := Lib.hid (B3.out.drew.setCell (Nat.le_refl _) _)
        generalize F g = t at *
        go_still_tail 14, (by kernel_rfl)
        change wpList _ _ _ _ _ W5.drew
        go_wp2
        exact ⟨⟨k + 1, by omega, by go_num, HV2, by rw [HF'.out, ctn]; exact H6, B6⟩, by simp [intOf]; omega⟩
      · have e1 : (t == 0) = true → decide (0 < y) = false := by
          intro h; rw [beq_iff_eq] at h; exact decide_eq_false (fun hh => ht ⟨h, hh⟩)
        have ctn' : Hid (cntG ws gs (k + 1) 7 = c) := Lib.hid (by rw [ctn, if_neg ht, Int.add_zero])
        cases e0 : (t == 0) with
        | true =>
          have e2 := e1 e0
          have tz : t = 0 := beq_iff_eq.1 e0
          clear e1 ctn
          replace ctn := ctn'.out
          clear ctn' ht
          go_wp2
          go_quiet (fail)
          have H3 : Hid ((wr.drewN nq).heap[w2.heap.size]? = some (.cells (sysArr (.slice (some ⟨g1, 0, none⟩) ws.length c1) (.slice (some ⟨g2, 0, none⟩) ws.length c2) F c) 66 (0, 0))) := Lib.hid HT2.out
          have B3 : Hid (Below w2.heap.size w2 (wr.drewN nq)) := Lib.hid (pw_below_drewN HB.out nq)
          clear ct ca cg0
          obtain ⟨cb0, cb1⟩ := cbd
          go_upto_region 11 with (fail)
          generalize (wr.drewN nq) = W5 at *
          have HA5 : Hid (Below w.heap.size w W5) := Lib.hid (below_then (below_then HB1.out HB1.out.size HB2.out) (by have := HB1.out.size; have := HB2.out.size; omega) B3.out)
          have cg5 : W5.cell? (ag.add k) = some (.int .i64 (g : Int)) := (pw_cell_below HA5.out (HG.out k hlt)).trans (by rw [HZ.out])
          have ct5 : W5.cell? ⟨w2.heap.size, 2 + g, none⟩ = some (.int .i64 (F g)) := (cell_of_row W5 w2.heap.size (2 + g) _ _ _ H3.out).trans (sysArr_get _ _ _ _ g g7)
          have cf5 : W5.frozen? ⟨w2.heap.size, 2 + g, none⟩ = false := frozen_of_row W5 w2.heap.size (2 + g) _ _ H3.out
          have bdF := HBF.out
          have H6 : Hid ((W5.drew.setCell ⟨w2.heap.size, 2 + g, none⟩ (.int .i64 (F g + y))).heap[w2.heap.size]? = some (.cells (sysArr (.slice (some ⟨g1, 0, none⟩) ws.length c1) (.slice (some ⟨g2, 0, none⟩) ws.length c2) F' c) 66 (0, 0))) := Lib.hid (by
            rw [heap_setCell_same _ _ _ _ _ _ (show W5.drew.heap[w2.heap.size]? = _ from H3.out), sysArr_set _ _ F F' _ g _ g7 HS1.out HS2.out])
          have B6 : Hid (Below w2.heap.size w2 (W5.drew.setCell ⟨w2.heap.size, 2 + g, none⟩ (.int .i64 (F g + y)))) := Lib.hid (B3.out.drew.setCell (Nat.le_refl _) _)
          generalize F g = t at *
          go_still_tail 14, (by kernel_rfl)
          change wpList _ _ _ _ _ W5.drew
          go_wp2
          exact ⟨⟨k + 1, by omega, by go_num, HV2, by rw [HF'.out, ctn]; exact H6, B6⟩, by simp [intOf]; omega⟩
        | false =>
          clear e1 ctn
          replace ctn := ctn'.out
          clear ctn' ht
          go_wp2
          go_quiet (fail)
          have H3 : Hid ((wr.drewN nq).heap[w2.heap.size]? = some (.cells (sysArr (.slice (some ⟨g1, 0, none⟩) ws.length c1) (.slice (some ⟨g2, 0, none⟩) ws.length c2) F c) 66 (0, 0))) := Lib.hid HT2.out
          have B3 : Hid (Below w2.heap.size w2 (wr.drewN nq)) := Lib.hid (pw_below_drewN HB.out nq)
          clear ct ca cg0
          obtain ⟨cb0, cb1⟩ := cbd
          go_upto_region 11 with (fail)
          generalize (wr.drewN nq) = W5 at *
          have HA5 : Hid (Below w.heap.size w W5) := Lib.hid (below_then (below_then HB1.out HB1.out.size HB2.out) (by have := HB1.out.size; have := HB2.out.size; omega) B3.out)
          have cg5 : W5.cell? (ag.add k) = some (.int .i64 (g : Int)) := (pw_cell_below HA5.out (HG.out k hlt)).trans (by rw [HZ.out])
          have ct5 : W5.cell? ⟨w2.heap.size, 2 + g, none⟩ = some (.int .i64 (F g)) := (cell_of_row W5 w2.heap.size (2 + g) _ _ _ H3.out).trans (sysArr_get _ _ _ _ g g7)
          have cf5 : W5.frozen? ⟨w2.heap.size, 2 + g, none⟩ = false := frozen_of_row W5 w2.heap.size (2 + g) _ _ H3.out
          have bdF := HBF.out
          have H6 : Hid ((W5.drew.setCell ⟨w2.heap.size, 2 + g, none⟩ (.int .i64 (F g + y))).heap[w2.heap.size]? = some (.cells (sysArr (.slice (some ⟨g1, 0, none⟩) ws.length c1) (.slice (some ⟨g2, 0, none⟩) ws.length c2) F' c) 66 (0, 0))) := Lib.hid (by
            rw [heap_setCell_same _ _ _ _ _ _ (show W5.drew.heap[w2.heap.size]? = _ from H3.out), sysArr_set _ _ F F' _ g _ g7 HS1.out HS2.out])
          have B6 : Hid (Below w2.heap.size w2 (W5.drew.setCell ⟨w2.heap.size, 2 + g, none⟩ (.int .i64 (F g + y)))) := Lib.hid (B3.out.drew.setCell (Nat.le_refl _) _)
          generalize F g = t at *
          go_still_tail 14, (by kernel_rfl)
          change wpList _ _ _ _ _ W5.drew
          go_wp2
          exact ⟨⟨k + 1, by omega, by go_num, HV2, by rw [HF'.out, ctn]; exact H6, B6⟩, by simp [intOf]; omega⟩
    · obtain rfl : k = ws.length := by omega
      have hm := map_at ws
      have hm2 := map_at gs
      have HM := Lib.hid hm
      have HM2 := Lib.hid hm2
      have HL' := HL.out
      have HLx := Lib.hid HL'
      clear hm hm2 HL'
      have HRG := sys_range HT.out
      obtain ⟨F, hF⟩ : ∃ F : Nat → Int, (fun g : Nat => wsum ws gs (fun _ => true) g ws.length) = F := ⟨_, rfl⟩
      rw [hF] at HRG
      have HR2 := Lib.hid HRG
      have heq : ∀ w : World, (Op.equalIn 10000 64 (.agg (tblL F).toArray) (.agg #[.int .i64 0, .int .i64 0, .int .i64 0, .int .i64 0, .int .i64 0, .int .i64 0, .int .i64 0])).run Try.prog w = .ok (allZero F) w := fun w => run_equalIn_tbl 9998 F (fun _ => 0) w
      by_cases hc : cntTo ws gs 7 = 0
      · have hz : allZero F = true := by rw [← hF]; exact cntTo_zero ws gs hc (fun g => (wsum_nn ws gs _ g ws.length (fun i hi => (HV.out i hi).1)).1)
        have HN : Hid (¬ Valid ws gs) := Lib.hid (fun v => by have := v.some; omega)
        rw [hz] at heq
        clear hF hc hz HRG
        go_wp2_with (refine wpList_load_mid rfl 64 _ rfl w2.heap.size 2 rfl (tblL F) _ HR2.out Try.underlying64 rfl (by kernel_rfl) ?_)
        go_ret2
        exact ⟨HA.out, .inr ⟨HN.out, rfl⟩⟩
      · have hz : allZero F = false := by rw [← hF]; exact cntTo_nz ws gs hc (fun g => (wsum_nn ws gs _ g ws.length (fun i hi => (HV.out i hi).1)).1)
        have HVal : Hid (Valid ws gs) := Lib.hid ⟨HLx.out, h1, h7, fun i hi => (HV.out i hi).1, fun i hi => (HV.out i hi).2, by have := cntTo_bd ws gs 7; omega⟩
        have HBig : Hid (w.heap.size ≤ w2.heap.size) := Lib.hid (by have := HB1.out.size; have := HB2.out.size; omega)
        have HSys : Hid (SysLo w.heap.size wr w2.heap.size ws gs) := Lib.hid ⟨HVal.out, ⟨g1, 0, none⟩, ⟨g2, 0, none⟩, c1, c2, HBig.out, HL1.out.1, HL2.out.1, (cell_of_row wr w2.heap.size 0 _ _ _ HT.out).trans rfl, (cell_of_row wr w2.heap.size 1 _ _ _ HT.out).trans rfl,
          fun g hg => (cell_of_row wr w2.heap.size (2 + g) _ _ _ HT.out).trans (sysArr_get _ _ _ _ g hg), (cell_of_row wr w2.heap.size 9 _ _ _ HT.out).trans (by rw [cntG_eq]; rfl),
          fun i hi => pw_cell_below HB.out (pw_cell_below HB2.out (HC1.out i _ (HM.out i hi))), fun i hi => pw_cell_below HB.out (HC2.out i _ (HM2.out i (by have := HLx.out; omega)))⟩
        rw [hz] at heq
        clear hF hc hz HRG
        go_wp2_with (refine wpList_load_mid rfl 64 _ rfl w2.heap.size 2 rfl (tblL F) _ HR2.out Try.underlying64 rfl (by kernel_rfl) ?_)
        go_ret2
        exact ⟨HA.out, .inl ⟨HVal.out, _, rfl, HBig.out, HSys.out⟩⟩
theorem NewPostL.post {w : World} {ws gs : List Int} {e : Ending} {w' : World} (h : NewPostL w ws gs e w') : NewPost w ws gs e w' := by
  obtain ⟨hB, ⟨v, b, he, hb, hs⟩ | hn⟩ := h
  · exact ⟨hB, .inl ⟨v, b, he, hb, hs.sys⟩⟩
  · exact ⟨hB, .inr hn⟩
theorem new_ok (aw ag : Addr) (cw cg : Nat) (ws gs : List Int) (w : World) (hw : ∀ i, i < ws.length → w.cell? (aw.add i) = some (.int .i64 (ws.getD i 0))) (hg : ∀ i, i < ws.length → w.cell? (ag.add i) = some (.int .i64 (gs.getD i 0)))
    (h1 : 1 ≤ ws.length) (h7 : ws.length ≤ 7) (hl : gs.length = ws.length) :
    Calls Try.prog 9 #[.slice (some aw) ws.length cw, .slice (some ag) ws.length cg] w (NewPost w ws gs) :=
  (new_okL aw ag cw cg ws gs w hw hg h1 h7 hl).mono (fun _ _ h => h.post)
theorem new_callsL (Aw Ag : Option Addr) (cw cg : Nat) (ws gs : List Int) (w : World) (hw : Rd w Aw ws) (hg : Rd w Ag gs) :
    Calls Try.prog 9 #[.slice Aw ws.length cw, .slice Ag gs.length cg] w (NewPostL w ws gs) := by
  by_cases hl : 1 ≤ ws.length ∧ ws.length ≤ 7 ∧ gs.length = ws.length
  · obtain ⟨h1, h7, he⟩ := hl
    obtain ⟨aw, rfl, hw2⟩ := hw.2 (by omega)
    obtain ⟨ag, rfl, hg2⟩ := hg.2 (by omega)
    rw [he]
    exact new_okL aw ag cw cg ws gs w hw2 (fun i hi => hg2 i (by omega)) h1 h7 he
  · refine (new_len Aw Ag cw cg ws gs w hw hg hl).mono ?_
    rintro e w' ⟨hB, ⟨v, _⟩ | hn⟩
    · exact absurd ⟨v.pos, v.le7, v.len⟩ hl
    · exact ⟨hB, .inr hn⟩
end Go.Proofs.Ytfkbknkmanphfaa.Q
