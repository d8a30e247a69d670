import Derived.Test.YtkhnjckkjdldbaaGreatDoorPb
import Derived.WalkMore
namespace Go.Proofs.YtkhnjckkjdldbaaGreatDoor.Q
open Go.RowKit Go.Shelf Go.Proofs.YtkhnjckkjdldbaaGreatDoorW.PrintWords Go.Proofs.YtkhnjckkjdldbaaGreatDoor.Pr
set_option linter.unusedVariables false
set_option linter.unusedSimpArgs false
attribute [local go_sem] Oper.semAt_some

theorem run_isAgg_int (P : Program) (e : TypeId) (k : IntKind) (he : P.underlying e = some (.int k)) (w : World) : (isAgg e).run P w = .ok false w := by
  unfold isAgg
  rw [Sem.run_bind, run_underlying he w]
  simp
theorem run_isAgg_bool (P : Program) (e : TypeId) (he : P.underlying e = some .bool) (w : World) : (isAgg e).run P w = .ok false w := by
  unfold isAgg
  rw [Sem.run_bind, run_underlying he w]
  simp
theorem results_cells2 {fn : Func} {p q : Tmp} {t u : TypeId} (h : fn.results = #[.cell p t, .cell q u]) (tmps : Array Value) (P : Program) (w : World) {a b : Addr} {x y : Value}
    (hp : tmps.getD p undef = .pointer (some a)) (hq : tmps.getD q undef = .pointer (some b)) (ht : (isAgg t).run P w = .ok false w) (hu : (isAgg u).run P w = .ok false w) (hx : w.cell? a = some x) (hy : w.cell? b = some y) :
    (results fn tmps).run P w = .ok (.tuple #[x, y]) w := by
  have hp' : tmps[p]?.getD undef = .pointer (some a) := by simpa using hp
  have hq' : tmps[q]?.getD undef = .pointer (some b) := by simpa using hq
  simp [results, h, hp', hq', asAddr, loadVar, Sem.run_bind, ht, hu, run_load, hx, hy]
theorem results_cells1 {fn : Func} {p : Tmp} {t : TypeId} (h : fn.results = #[.cell p t]) (tmps : Array Value) (P : Program) (w : World) {a : Addr} {x : Value}
    (hp : tmps.getD p undef = .pointer (some a)) (ht : (isAgg t).run P w = .ok false w) (hx : w.cell? a = some x) :
    (results fn tmps).run P w = .ok x w := by
  have hp' : tmps[p]?.getD undef = .pointer (some a) := by simpa using hp
  simp [results, h, hp', asAddr, loadVar, Sem.run_bind, ht, run_load, hx]
theorem splitSeq_call (s t : ByteArray) (w : World) :
    Calls Tryz.prog 98 #[.string s, .string t] w fun e w' => e = .returned (.func (.func 116) #[] #[.pointer (some ⟨w.heap.size + 1, 0, none⟩), .pointer (some ⟨w.heap.size, 0, none⟩), .pointer (some ⟨w.heap.size + 2, 0, none⟩)]) ∧
      w'.heap[w.heap.size]? = some (.cells #[.string s] 9 (0, 0)) ∧ w'.heap[w.heap.size + 1]? = some (.cells #[.string t] 9 (0, 0)) ∧ w'.heap[w.heap.size + 2]? = some (.cells #[.int .i64 0] 3 (0, 0)) ∧ Below w.heap.size w w' ∧ w'.heap.size = w.heap.size + 3 := by
  go_enter Tryz.func98, Tryz.ntmps98
  go_wp2
  go_ret
  refine ⟨by simp, ?_, ?_, ?_, below_alloc (below_alloc (below_alloc (Below.refl _ w) _) _) _, by simp⟩
  · rw [heap_alloc_old _ _ (by simp; omega), heap_alloc_old _ _ (by simp)]; exact heap_alloc_new w _
  · rw [heap_alloc_old _ _ (by simp)]
    have := heap_alloc_new (w.alloc (.cells #[.string s] 9)) (.cells #[.string t] 9)
    rwa [World.size_alloc] at this
  · have := heap_alloc_new ((w.alloc (.cells #[.string s] 9)).alloc (.cells #[.string t] 9)) (.cells #[.int .i64 0] 3)
    rw [World.size_alloc, World.size_alloc] at this
    exact this

/-! CHECK -/
theorem below_of_grown {w0 w w' : World} {row : Option Nat} (hB : Below w0.heap.size w0 w) (hg : w.grownBy w' row) (hr : ∀ k, row = some k → w0.heap.size ≤ k) : Below w0.heap.size w0 w' :=
  ⟨hg.os.trans hB.os, hg.tape.trans hB.tape, hg.output.trans hB.output, Nat.le_trans hB.size hg.size, fun k hk => (hg.block k (Nat.lt_of_lt_of_le hk hB.size) (fun e => by have := hr k e.symm; omega)).trans (hB.block k hk)⟩
theorem alloc2_cells (w : World) (x y : Value) (t u : TypeId) :
    ((w.alloc (.cells #[x] t)).alloc (.cells #[y] u)).cell? ⟨w.heap.size, 0, none⟩ = some x ∧ ((w.alloc (.cells #[x] t)).alloc (.cells #[y] u)).cell? ⟨w.heap.size + 1, 0, none⟩ = some y := by
  constructor
  · have h : ((w.alloc (.cells #[x] t)).alloc (.cells #[y] u)).heap[w.heap.size]? = some (.cells #[x] t (0, 0)) := by
      rw [heap_alloc_old _ _ (by simp)]; exact heap_alloc_new w _
    exact (cell_of_row _ _ 0 _ _ _ h).trans rfl
  · have h := heap_alloc_new (w.alloc (.cells #[x] t)) (.cells #[y] u)
    rw [World.size_alloc] at h
    exact (cell_of_row _ _ 0 _ _ _ h).trans rfl
theorem agg3 (w : World) : (isAgg 3).run Tryz.prog w = .ok false w := run_isAgg_int _ _ .i64 Tryz.underlying3 w
theorem agg23 (w : World) : (isAgg 62).run Tryz.prog w = .ok false w := run_isAgg_int _ _ .i64 Tryz.underlying62 w
theorem agg4 (w : World) : (isAgg 4).run Tryz.prog w = .ok false w := run_isAgg_bool _ _ Tryz.underlying4 w
def CheckPost (p : ByteArray) (w : World) (e : Ending) (w' : World) : Prop := e = .returned (.tuple #[.int .i64 ((checkP p).1 : Nat), .int .i64 ((checkP p).2 : Nat)]) ∧ Below w.heap.size w w'
theorem check_post {p : ByteArray} {w w' : World} {a b : Int} (ha : a = (checkP p).1) (hb : b = (checkP p).2) (h : Below w.heap.size w w') : CheckPost p w (.returned (.tuple #[.int .i64 a, .int .i64 b])) w' := ⟨by rw [ha, hb], h⟩
set_option maxHeartbeats 4000000 in
set_option maxRecDepth 100000 in
theorem check_noslash (p : ByteArray) (w : World) (hs : ¬ slash p) : Calls Tryz.prog 84 #[.string p] w (CheckPost p w) := by
  have HC : Hid (checkP p = (0, 50)) := Lib.hid (by unfold checkP; rw [if_pos hs])
  have hz := toList_nil_iff p
  by_cases c0 : p.toList = []
  · have c0' : p.toList.isEmpty = true := by rw [c0]; rfl
    clear hz hs
    go_enter Tryz.func84, Tryz.ntmps84
    go_wp2
    go_step3
    go_wp2
    rw [Exit.noGoto_ret]
    have h2 := alloc2_cells w (.int .i64 0) (.int .i64 50) 3 62
    exact bodyPost_ret (results_cells2 rfl _ _ _ rfl rfl (agg3 _) (agg23 _) h2.1 h2.2) rfl (check_post (by rw [HC.out]; rfl) (by rw [HC.out]; rfl) (below_alloc (below_alloc (Below.refl _ w) _) _))
  · have c0' : p.toList.isEmpty = false := by simpa using c0
    have hp : 0 < p.size := by
      rcases Nat.eq_zero_or_pos p.size with h | h
      · exact absurd (hz.2 h) c0
      · exact h
    have hb : ∀ h : 0 < p.size, (((p[0]'h).toNat : Int) != 47) = true := fun h => by
      rw [bne_iff_ne]
      intro h2
      refine hs ⟨hp, ?_⟩
      rw [Utf8W.get!_of_lt p 0 hp]; omega
    clear hz hs
    go_enter Tryz.func84, Tryz.ntmps84
    go_wp2
    go_step3
    go_wp2
    rw [Exit.noGoto_ret]
    have h2 := alloc2_cells w (.int .i64 0) (.int .i64 50) 3 62
    exact bodyPost_ret (results_cells2 rfl _ _ _ rfl rfl (agg3 _) (agg23 _) h2.1 h2.2) rfl (check_post (by rw [HC.out]; rfl) (by rw [HC.out]; rfl) (below_alloc (below_alloc (Below.refl _ w) _) _))

theorem first_byte {p : ByteArray} (hs : slash p) : ∀ h : 0 < p.size, (((p[0]'h).toNat : Int) != 47) = false := fun h => by
  have := hs.2
  rw [Utf8W.get!_of_lt p 0 hs.1] at this
  rw [bne_eq_false_iff_eq, this]; rfl
theorem slash_some {p : ByteArray} (hs : slash p) : p.toList.isEmpty = false := by
  have := hs.1
  cases h : p.toList with
  | nil => have := (toList_nil_iff p).1 h; omega
  | cons _ _ => rfl
set_option maxHeartbeats 4000000 in
set_option maxRecDepth 100000 in
theorem check_root (p : ByteArray) (w : World) (hr : p.toList = [47]) : Calls Tryz.prog 84 #[.string p] w (CheckPost p w) := by
  have hsz : p.size = 1 := by rw [Lib.toList_data] at hr; rw [Lib.size_eq, hr]; rfl
  have hsl : slash p := by
    refine ⟨by omega, ?_⟩
    have := data_getD p 0 (by omega)
    rw [← Lib.toList_data, hr] at this
    have := Option.some.inj this
    rw [← this]; rfl
  have HC : Hid (checkP p = (0, 0)) := Lib.hid (by unfold checkP; rw [if_neg (fun x => x hsl), if_pos hr])
  have hb := first_byte hsl
  have c0' := slash_some hsl
  have c1 : (p.toList == [47]) = true := beq_iff_eq.mpr hr
  have hp : 0 < p.size := hsl.1
  clear hsz hsl
  go_enter Tryz.func84, Tryz.ntmps84
  go_wp2
  go_step3
  go_wp2
  rw [Exit.noGoto_ret]
  have h2 := alloc2_cells w (.int .i64 0) (.int .i64 0) 3 62
  exact bodyPost_ret (results_cells2 rfl _ _ _ rfl rfl (agg3 _) (agg23 _) h2.1 h2.2) rfl (check_post (by rw [HC.out]; rfl) (by rw [HC.out]; rfl) (below_alloc (below_alloc (Below.refl _ w) _) _))
def Three (w W : World) (a b c : Int) : Prop :=
  W.heap[w.heap.size]? = some (.cells #[.int .i64 a] 3 (0, 0)) ∧ W.heap[w.heap.size + 1]? = some (.cells #[.int .i64 b] 62 (0, 0)) ∧ W.heap[w.heap.size + 2]? = some (.cells #[.int .i64 c] 3 (0, 0)) ∧ Below w.heap.size w W
theorem Three.grown {w W W' : World} {a b c : Int} {row : Option Nat} {B : Nat} (h : Three w W a b c) (hg : W.grownBy W' row) (hr : ∀ r, row = some r → B ≤ r) (hB : w.heap.size + 3 ≤ B) : Three w W' a b c :=
  ⟨grown_kept hg hr h.1 (by omega), grown_kept hg hr h.2.1 (by omega), grown_kept hg hr h.2.2.1 (by omega), below_of_grown h.2.2.2 hg (fun k e => by have := hr k e; omega)⟩
theorem Three.below {w W W' : World} {a b c : Int} (h : Three w W a b c) (hB : Below W.heap.size W W') : Three w W' a b c :=
  ⟨(hB.block _ (Array.getElem?_eq_some_iff.1 h.1).1).trans h.1, (hB.block _ (Array.getElem?_eq_some_iff.1 h.2.1).1).trans h.2.1, (hB.block _ (Array.getElem?_eq_some_iff.1 h.2.2.1).1).trans h.2.2.1, below_step h.2.2.2 hB⟩
theorem Three.only {w W W' : World} {a b c : Int} {S : Nat → Prop} (h : Three w W a b c) (ho : Only S W W') (hS : ∀ k, S k → w.heap.size + 3 ≤ k) : Three w W' a b c :=
  ⟨ho.blk h.1 (fun s => by have := hS _ s; omega), ho.blk h.2.1 (fun s => by have := hS _ s; omega), ho.blk h.2.2.1 (fun s => by have := hS _ s; omega), ho.from h.2.2.2 (fun k s => by have := hS _ s; omega)⟩
theorem ff_app {a : Nat} {pre l : List ByteArray} (h : pre.all nameOk = true) : ff a (pre ++ l) = ff (a + sums pre) l := by
  induction pre generalizing a with
  | nil => simp [sums]
  | cons x pre ih =>
    rw [List.all_cons, Bool.and_eq_true] at h
    have hn : nameFault x = none := by have := h.1; unfold nameOk at this; simpa using this
    rw [List.cons_append, ff, hn]
    simp only
    rw [ih h.2, sums_cons]
    congr 1; omega
theorem sums_app (a : List ByteArray) (x : ByteArray) : sums (a ++ [x]) = sums a + x.size + 1 := by simp [sums]; omega
theorem checkP_some {p : ByteArray} (hsl : slash p) (hr : ¬ p.toList = [47]) {j : Nat} (h : ff 1 (segs p 1) = some j) : checkP p = (min j 64, 50) := by
  unfold checkP; rw [if_neg (fun x : ¬ slash p => x hsl), if_neg hr, h]
theorem checkP_none {p : ByteArray} (hsl : slash p) (hr : ¬ p.toList = [47]) (h : ff 1 (segs p 1) = none) : checkP p = if 64 < p.size then (64, 50) else (0, 0) := by
  unfold checkP; rw [if_neg (fun x : ¬ slash p => x hsl), if_neg hr, h]
theorem scopeIn_wide {n : Nat} {P : Program} {c : Code} {Q : Exit → Act → World → Prop} {a : Act} {w : World} (h : c.wpIn Fence.wide n P (Exit.noGoto Q) a w) : (Code.scope c).wpIn Fence.wide n P Q a w :=
  (wpIn_wide (n := n)).2 (wp_scope_straight ((wpIn_wide (n := n)).1 h))
theorem Three.set0 {w W : World} {a b c : Int} (h : Three w W a b c) (x : Int) : Three w (W.setCell ⟨w.heap.size, 0, none⟩ (.int .i64 x)) x b c :=
  ⟨heap_setCell_same W _ 0 _ _ _ h.1, (blk_other _ _ _ (by show w.heap.size + 1 ≠ w.heap.size; omega)).trans h.2.1, (blk_other _ _ _ (by show w.heap.size + 2 ≠ w.heap.size; omega)).trans h.2.2.1, h.2.2.2.setCell (p := ⟨w.heap.size, 0, none⟩) (Nat.le_refl _) _⟩
theorem Three.set1 {w W : World} {a b c : Int} (h : Three w W a b c) (x : Int) : Three w (W.setCell ⟨w.heap.size + 1, 0, none⟩ (.int .i64 x)) a x c :=
  ⟨(blk_other _ _ _ (by show w.heap.size ≠ w.heap.size + 1; omega)).trans h.1, heap_setCell_same W _ 0 _ _ _ h.2.1, (blk_other _ _ _ (by show w.heap.size + 2 ≠ w.heap.size + 1; omega)).trans h.2.2.1, h.2.2.2.setCell (p := ⟨w.heap.size + 1, 0, none⟩) (by simp) _⟩
theorem Three.set2 {w W : World} {a b c : Int} (h : Three w W a b c) (x : Int) : Three w (W.setCell ⟨w.heap.size + 1 + 1, 0, none⟩ (.int .i64 x)) a b x :=
  ⟨(blk_other _ _ _ (by show w.heap.size ≠ w.heap.size + 1 + 1; omega)).trans h.1, (blk_other _ _ _ (by show w.heap.size + 1 ≠ w.heap.size + 1 + 1; omega)).trans h.2.1, heap_setCell_same W _ 0 _ _ _ h.2.2.1, h.2.2.2.setCell (p := ⟨w.heap.size + 1 + 1, 0, none⟩) (by show w.heap.size ≤ w.heap.size + 1 + 1; omega) _⟩
theorem Three.c0 {w W : World} {a b c : Int} (h : Three w W a b c) : W.cell? ⟨w.heap.size, 0, none⟩ = some (.int .i64 a) := (cell_of_row W w.heap.size 0 _ _ _ h.1).trans rfl
theorem Three.c1 {w W : World} {a b c : Int} (h : Three w W a b c) : W.cell? ⟨w.heap.size + 1, 0, none⟩ = some (.int .i64 b) := (cell_of_row W (w.heap.size + 1) 0 _ _ _ h.2.1).trans rfl
theorem Three.z0 {w W : World} {a b c : Int} (h : Three w W a b c) : W.frozen? ⟨w.heap.size, 0, none⟩ = false := frozen_of_row W w.heap.size 0 _ _ h.1
theorem Three.z1 {w W : World} {a b c : Int} (h : Three w W a b c) : W.frozen? ⟨w.heap.size + 1, 0, none⟩ = false := frozen_of_row W (w.heap.size + 1) 0 _ _ h.2.1
theorem check_end {p : ByteArray} {w W : World} {n D : Nat} {tmps : Array Value} {a b c : Int} (h : Three w W a b c) (hD : W.heap[D]? = some (.deferred (some []))) (hDw : w.heap.size + 3 ≤ D) (ha : a = (checkP p).1) (hb : b = (checkP p).2)
    (h2 : tmps.getD 2 undef = .pointer (some ⟨w.heap.size, 0, none⟩)) (h3 : tmps.getD 3 undef = .pointer (some ⟨w.heap.size + 1, 0, none⟩)) :
    LeavesInM Fence.wide n Tryz.prog Tryz.f84 tmps (CheckPost p w) [{ target := .collected D, args := #[] }] .returning W := by
  have hS : Three w (W.putObj D (.deferred none)) a b c := h.only ((Only.refl (fun k => k = D) W).putObj rfl _) (fun k e => by omega)
  refine ⟨by simp, .inl ⟨_, _, rfl, run_takeDeferred hD, ?_⟩⟩
  exact ⟨_, results_cells2 rfl _ _ _ h2 h3 (agg3 _) (agg23 _) hS.c0 hS.c1, check_post ha hb hS.2.2.2⟩
def CheckI (p : ByteArray) (w : World) (pre : List ByteArray) (W : World) : Prop := pre.all nameOk = true ∧ (∃ rest, segs p 1 = pre ++ rest) ∧ Three w W 0 0 (1 + (sums pre : Nat))
def CheckX (p : ByteArray) (w : World) (c : Code) (W : World) : Prop := c = .ret ∧ ∃ j t, ff 1 (segs p 1) = some j ∧ Three w W (min (j : Int) 64) 50 t
set_option maxHeartbeats 8000000 in
set_option maxRecDepth 100000 in
theorem check_main (p : ByteArray) (w : World) (hs : p.size ≤ 2147483648) (hT : Tabs w) (hsl : slash p) (hr : ¬ p.toList = [47]) : Calls Tryz.prog 84 #[.string p] w (CheckPost p w) := by
  have HCs := Lib.hid (fun j => checkP_some hsl hr (j := j))
  have HCn := Lib.hid (checkP_none hsl hr)
  have HT := Lib.hid hT
  have hb := first_byte hsl
  have c0' := slash_some hsl
  have c1 : (p.toList == [47]) = false := beq_eq_false_iff_ne.mpr hr
  have hp : 0 < p.size := hsl.1
  clear hr hsl hT
  have B0 : Below w.heap.size w (((w.alloc (.cells #[.int .i64 0] 3)).alloc (.cells #[.int .i64 0] 62)).alloc (.cells #[.int .i64 1] 3)) := below_alloc (below_alloc (below_alloc (Below.refl _ w) _) _) _
  have S0 : (((w.alloc (.cells #[.int .i64 0] 3)).alloc (.cells #[.int .i64 0] 62)).alloc (.cells #[.int .i64 1] 3)).heap.size = w.heap.size + 3 := by simp
  have T0 : Three w (((w.alloc (.cells #[.int .i64 0] 3)).alloc (.cells #[.int .i64 0] 62)).alloc (.cells #[.int .i64 1] 3)) 0 0 1 := by
    refine ⟨?_, ?_, ?_, B0⟩
    · rw [heap_alloc_old _ _ (by simp; omega), heap_alloc_old _ _ (by simp)]; exact heap_alloc_new w _
    · rw [heap_alloc_old _ _ (by simp)]
      have := heap_alloc_new (w.alloc (.cells #[.int .i64 0] 3)) (.cells #[.int .i64 0] 62)
      rwa [World.size_alloc] at this
    · have := heap_alloc_new ((w.alloc (.cells #[.int .i64 0] 3)).alloc (.cells #[.int .i64 0] 62)) (.cells #[.int .i64 1] 3)
      rw [World.size_alloc, World.size_alloc] at this
      exact this
  have KS := splitSeq_call (p.extract 1 p.size) ⟨#[47]⟩ (((w.alloc (.cells #[.int .i64 0] 3)).alloc (.cells #[.int .i64 0] 62)).alloc (.cells #[.int .i64 1] 3))
  rw [S0] at KS
  have HKS := Lib.hid KS
  have HT0 := Lib.hid T0
  have HS0 := Lib.hid S0
  clear KS T0 S0 B0
  refine (callsIn_wide (n := 5)).1 ?_
  refine callsIn_of_wp_marks Tryz.func84 rfl trivial ?_ rfl
  simp only [Tryz.ntmps84, List.size_toArray, List.length_cons, List.length_nil, Nat.reduceAdd, Nat.reduceSub, Array.replicate_succ, Array.replicate_zero, List.push_toArray, List.append_toArray, List.nil_append, List.cons_append]
  gi_wp2_with fail
  refine scopeIn_wide ?_
  gi_wp2_with fail
  refine wpIn_label ?_
  gi_wp2_with fail
  refine ⟨trivial, (callsIn_wide.2 HKS.out).mono ?_⟩
  rintro e w4 ⟨rfl, k1, k2, k3, hB4, hz4⟩
  have HT4 := Lib.hid (HT0.out.below (by rw [HS0.out]; exact hB4))
  have HK := Lib.hid (And.intro k1 (And.intro k2 k3))
  have hz : w4.heap.size = w.heap.size + 6 := by rw [hz4]
  clear HKS k1 k2 k3 hB4 hz4 hb c0' c1
  gi_wp2_with fail
  rename_i KK aK
  have HX := Lib.hid aK
  clear aK
  refine range_z (F := Fence.wide) rfl (by decide) (gf := 116) (lb := #[.pointer (some ⟨w.heap.size + 3 + 1, 0, none⟩), .pointer (some ⟨w.heap.size + 3, 0, none⟩), .pointer (some ⟨w.heap.size + 3 + 2, 0, none⟩)]) rfl trivial (enters_of Tryz.func116 (by kernel_rfl) rfl)
    (split_gives _ (by decide) (w.heap.size + 3) p hp (by omega)) (fun W hB => ⟨(hB.block _ (by omega)).trans HK.out.1, (hB.block _ (by omega)).trans HK.out.2.1, (hB.block _ (by omega)).trans HK.out.2.2⟩) (fun _ => rfl) (fun k hk => by omega) (fun k hk => .inl hk)
    (CheckI p w) (fun c _ W => CheckX p w c W) ?hI ?hIx ?hIz ⟨rfl, ⟨segs p 1, rfl⟩, by simpa [sums] using HT4.out⟩ ?ex ?done ?stop
  case hI =>
    rintro pre A C row ⟨h1, h2, h3⟩ hg hr
    exact ⟨h1, h2, h3.grown hg (fun r e => (hr r e).1) (by omega)⟩
  case hIx =>
    rintro c pre A C row ⟨h1, j, t, h2, h3⟩ hg hr
    exact ⟨h1, j, t, h2, h3.grown hg (fun r e => (hr r e).1) (by omega)⟩
  case hIz =>
    rintro pre A C ⟨h1, h2, h3⟩ ho
    exact ⟨h1, h2, h3.only ho (fun k hk => by omega)⟩
  case ex =>
    apply Exists.intro
    refine ⟨?assign, ?body⟩
    case assign =>
      intro l' x W2 K hK
      simp only [encT]
      gi_wp2
      exact hK
    case body =>
      rintro l' pre x A ⟨h1, ⟨rest0, h2⟩, h3⟩ hlen ⟨rest, hnx⟩
      have hxs : x.size ≤ p.size := segs_size p _ 1 (Nat.le_refl _) x (by rw [hnx]; simp)
      have hsm : sums pre + x.size + 1 + sums rest ≤ p.size := by
        have := segs_sum p _ 1 (Nat.le_refl _)
        rw [hnx] at this
        have e : sums (pre ++ x :: rest) = sums pre + (x.size + 1 + sums rest) := by
          simp [sums]
          try omega
        omega
      have KF := fault_calls x A (by omega) (tabs_from HT.out h3.2.2.2)
      have HFF : Hid (ff 1 (segs p 1) = ff (1 + sums pre) (x :: rest)) := Lib.hid (by rw [hnx, ff_app h1])
      have H3 := Lib.hid h3
      have HP := Lib.hid (And.intro h1 hnx)
      clear h1 h2 h3 hnx
      cases hf : nameFault x with
      | none =>
        have e1 : faultV x = -1 := by unfold faultV; rw [hf]
        rw [e1] at KF
        have HKF := Lib.hid KF
        have HN : Hid ((pre ++ [x]).all nameOk = true) := Lib.hid (by rw [List.all_append, HP.out.1]; simp [nameOk, hf])
        clear hf e1 KF
        gi_wp2_with fail
        refine ⟨trivial, (callsIn_wide.2 HKF.out).mono ?_⟩
        rintro e w5 ⟨rfl, hB5⟩
        have H5 := Lib.hid (H3.out.below hB5)
        have HB5 := Lib.hid hB5
        have x0 : w5.cell? ⟨w.heap.size + 1 + 1, 0, none⟩ = some (.int .i64 (1 + (sums pre : Nat))) := (cell_of_row w5 (w.heap.size + 2) 0 _ _ _ H5.out.2.2.1).trans rfl
        have z0 : w5.frozen? ⟨w.heap.size + 1 + 1, 0, none⟩ = false := frozen_of_row w5 (w.heap.size + 2) 0 _ _ H5.out.2.2.1
        clear hB5 HKF
        gi_wp2
        have HO : Only (fun k => ¬(k = w.heap.size + 3 ∨ k = w.heap.size + 3 + 1 ∨ k = w.heap.size + 3 + 2)) A (w5.setCell ⟨w.heap.size + 1 + 1, 0, none⟩ (.int .i64 (1 + (sums pre : Nat) + (x.size + 1)))) :=
          (Only.of_below HB5.out).setCell (p := ⟨w.heap.size + 1 + 1, 0, none⟩) (.inl (by intro hx; have hx2 : w.heap.size + 1 + 1 = w.heap.size + 3 ∨ w.heap.size + 1 + 1 = w.heap.size + 3 + 1 ∨ w.heap.size + 1 + 1 = w.heap.size + 3 + 2 := hx; omega)) _
        refine ⟨(KeepsFrom.of_grownBy (grown_of_below HB5.out) (fun j e => by cases e)).trans ((KeepsOthers.setCell _ _ _).from _), HO, HN.out, ⟨rest, by rw [HP.out.2]; simp⟩, ?_⟩
        have h9 := H5.out.set2 (1 + (sums pre : Nat) + (x.size + 1))
        rw [sums_app]
        have e9 : (1 + (sums pre : Nat) + ((x.size : Nat) + 1) : Int) = 1 + ((sums pre + x.size + 1 : Nat) : Int) := by omega
        rw [← e9]
        exact h9
      | some j =>
        have e1 : faultV x = j := by unfold faultV; rw [hf]
        rw [e1] at KF
        have HKF := Lib.hid KF
        have hj := nameFault_le hf
        have HN : Hid (ff 1 (segs p 1) = some (1 + sums pre + j)) := Lib.hid (by rw [HFF.out, ff, hf])
        clear hf e1 KF
        gi_wp2_with fail
        refine ⟨trivial, (callsIn_wide.2 HKF.out).mono ?_⟩
        rintro e w5 ⟨rfl, hB5⟩
        have H5 := Lib.hid (H3.out.below hB5)
        have HB5 := Lib.hid hB5
        have x0 : w5.cell? ⟨w.heap.size + 1 + 1, 0, none⟩ = some (.int .i64 (1 + (sums pre : Nat))) := (cell_of_row w5 (w.heap.size + 2) 0 _ _ _ H5.out.2.2.1).trans rfl
        have x1 : w5.cell? ⟨w.heap.size, 0, none⟩ = some (.int .i64 0) := (cell_of_row w5 w.heap.size 0 _ _ _ H5.out.1).trans rfl
        have z1 : w5.frozen? ⟨w.heap.size, 0, none⟩ = false := frozen_of_row w5 w.heap.size 0 _ _ H5.out.1
        have x2 : w5.cell? ⟨w.heap.size + 1, 0, none⟩ = some (.int .i64 0) := (cell_of_row w5 (w.heap.size + 1) 0 _ _ _ H5.out.2.1).trans rfl
        have z2 : w5.frozen? ⟨w.heap.size + 1, 0, none⟩ = false := frozen_of_row w5 (w.heap.size + 1) 0 _ _ H5.out.2.1
        clear hB5 HKF
        gi_wp2
        refine ⟨((KeepsFrom.of_grownBy (grown_of_below HB5.out) (fun j e => by cases e)).trans ((KeepsOthers.setCell _ _ _).from _)).trans ((KeepsOthers.setCell _ _ _).from _), rfl, 1 + sums pre + j, 1 + (sums pre : Nat), HN.out, ?_⟩
        have h9 := (H5.out.set0 (min (1 + (sums pre : Nat) + (j : Int)) 64)).set1 50
        have e9 : min (1 + (sums pre : Nat) + (j : Int)) 64 = min ((1 + sums pre + j : Nat) : Int) 64 := by omega
        rw [e9] at h9
        rw [e9]
        exact h9
  case done =>
    rintro xs A rfl ⟨h1, h2, h3⟩ hD
    have hn := HCn.out ((ff_none _ 1).2 h1)
    have x1 := h3.c0
    have z1 := h3.z0
    have x2 := h3.c1
    have z2 := h3.z1
    have H3 := Lib.hid h3
    have HN := Lib.hid hn
    rw [hz] at hD
    have HD := Lib.hid hD
    clear h1 h2 h3 hn hD
    refine HX.out _ _ ?_
    by_cases h64 : 64 < p.size
    · gi_wp2
      rw [Exit.noGoto_ret]
      exact check_end ((H3.out.set0 64).set1 50) ((blk_other _ _ _ (by show w.heap.size + 6 ≠ w.heap.size + 1; omega)).trans ((blk_other _ _ _ (by show w.heap.size + 6 ≠ w.heap.size; omega)).trans HD.out)) (by omega) (by rw [HN.out, if_pos h64]; rfl) (by rw [HN.out, if_pos h64]; rfl) rfl rfl
    · gi_wp2
      rw [Exit.noGoto_ret]
      exact check_end ((H3.out.set0 0).set1 0) ((blk_other _ _ _ (by show w.heap.size + 6 ≠ w.heap.size + 1; omega)).trans ((blk_other _ _ _ (by show w.heap.size + 6 ≠ w.heap.size; omega)).trans HD.out)) (by omega) (by rw [HN.out, if_neg h64]; rfl) (by rw [HN.out, if_neg h64]; rfl) rfl rfl
  case stop =>
    rintro c pre A _ ⟨rfl, j, t, hj, h3⟩ hD
    have hn := HCs.out j hj
    gi_wp2
    exact check_end h3 hD (by omega) (by rw [hn]; simp only; omega) (by rw [hn]; rfl) rfl rfl
theorem check_calls (p : ByteArray) (w : World) (hs : p.size ≤ 2147483648) (hT : Tabs w) : Calls Tryz.prog 84 #[.string p] w fun e w' => e = .returned (.tuple #[.int .i64 ((checkP p).1 : Nat), .int .i64 ((checkP p).2 : Nat)]) ∧ Below w.heap.size w w' := by
  by_cases hsl : slash p
  · by_cases hr : p.toList = [47]
    · exact check_root p w hr
    · exact check_main p w hs hT hsl hr
  · exact check_noslash p w hsl
end Go.Proofs.YtkhnjckkjdldbaaGreatDoor.Q
