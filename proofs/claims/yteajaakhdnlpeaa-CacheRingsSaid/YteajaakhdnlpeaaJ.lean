import Derived.Test.YteajaakhdnlpeaaI
namespace Go.Proofs.Yteajaakhdnlpeaa.Q
open Go.RowKit Go.Proofs.YteajaakhdnlpeaaW.PrintWords Go.Deep
set_option linter.unusedVariables false
set_option linter.unusedSimpArgs false

/-- one call of a script -/
structure OpV where
  kind : Int
  on : Int
  n : Int
/-- a slice of calls that reads as os -/
def RdO (w : World) (A : Option Addr) (os : List OpV) : Prop := os.length ≤ 9223372036854775807 ∧ (0 < os.length → ∃ b o, A = some ⟨b, o, none⟩ ∧ ∀ i, i < os.length → ∃ cs : List Value, cs.length = 23 ∧ w.rangeAt b (o + i * 23) cs ∧ (∀ v ∈ cs, v.oneCell' = true) ∧
  cs[0]? = some (.int .i64 (os.getD i ⟨0, 0, 0⟩).kind) ∧ cs[1]? = some (.int .i64 (os.getD i ⟨0, 0, 0⟩).on) ∧ cs[2]? = some (.int .i64 (os.getD i ⟨0, 0, 0⟩).n))
variable {w W : World} {A D M : Nat} {mo : Nat → Int} {R N : Nat → Nat} {V : Nat → Value} {L : Nat → List Int}
def opZ : Array Value := #[.int .i64 0, .int .i64 0, .int .i64 0, .int .u32 0, .int .u32 0, .int .i8 0, .int .u32 0, .int .i64 0, .int .i8 0, .string { data := #[] }, .slice none 0 0, .slice none 0 0, .int .i32 0, .bool false, .bool false, .int .i64 0, .int .i32 0, .slice none 0 0, .slice none 0 0, .int .u32 0, .int .u32 0, .int .u32 0, .int .u32 0]
theorem there_new (W : World) (Z : Array Value) (t : TypeId) : (W.alloc (.cells Z t)).there W.heap.size 0 Z.size :=
  rowIs_there (World.rowIs_alloc W Z t (fun i => Z.getD i .nilFunc) (fun i hi => by simp [Array.getD, hi]))
theorem op_there (W : World) (cs : List Value) (hl : cs.length = 23) : (W.alloc (.cells opZ 50)).there W.heap.size 0 cs.toArray.size := by
  have : cs.toArray.size = opZ.size := by simp [hl, opZ]
  rw [this]; exact there_new W opZ 50
theorem op_facts (W : World) (cs : List Value) (hl : cs.length = 23) : Below W.heap.size W ((W.alloc (.cells opZ 50)).setCells W.heap.size 0 cs) ∧ ∀ j v, cs[j]? = some v → ((W.alloc (.cells opZ 50)).setCells W.heap.size 0 cs).cell? ⟨W.heap.size, j, none⟩ = some v := by
  have ht := op_there W cs hl
  constructor
  · have h0 : Only (fun _ => False) W (W.alloc (.cells opZ 50)) := Only.of_below (below_alloc (Below.refl _ _) _)
    exact (Only.setCells W.heap.size (.inr (Nat.le_refl _)) cs 0 h0).below (fun _ _ h => h)
  · intro j v hv
    have := World.rangeAt_setCells_same (W.alloc (.cells opZ 50)) W.heap.size 0 cs (by simpa using ht) j v hv
    simpa using this
theorem Only.grown {S : Nat → Prop} {a b c : World} {row : Option Nat} (h : Only S a b) (hg : b.grownBy c row) (hr : ∀ k, row = some k → S k ∨ a.heap.size ≤ k) : Only S a c :=
  ⟨hg.os.trans h.os, hg.tape.trans h.tape, hg.output.trans h.output, Nat.le_trans h.size hg.size, fun k hk hn => (hg.block k (Nat.lt_of_lt_of_le hk h.size) (fun e => by rcases hr k e.symm with s | s; exact hn s; omega)).trans (h.block k hk hn)⟩
/-- Put, at both -/
theorem CR.put (h : CR w W 2 A D M mo R N V L) {k : Nat} (hk : k < 2) (hf : fin (mo k) = true) {w6 w7 : World} {y : Int} {g cap : Nat} {o : Obj}
    (hr : RingI 83 w6 (R k) (mo k).toNat (push (mo k).toNat (ints (lastN (mo k).toNat (L k))) (.int .i64 y))) (ho : Only (fun j => j = R k) W w6)
    (hown : w7.ownsRow w.heap.size 2 1 (.slice (some ⟨g, 0, none⟩) ((L k).length + 1) cap) ((L k).length + 1) (ints (L k) ++ [.int .i64 y])) (hgrow : ((w6.alloc o).drew).grownBy w7 (V k).ownBlock) (hat : (V k).ownBlock = some g ∨ g = w6.heap.size + 1) :
    CR w (w7.setCell ⟨N k, 1, none⟩ (.slice (some ⟨g, 0, none⟩) ((L k).length + 1) cap)) 2 A D M mo R N (upd V k (.slice (some ⟨g, 0, none⟩) ((L k).length + 1) cap)) (upd L k (L k ++ [y])) := by
  obtain ⟨cR, bR⟩ := (h.ring k hk hf).2.blk
  have bN := (h.num k hk).2
  have NR : N k ≠ R k := blocks_ne bN bR (by decide)
  have NV : ∀ j, (V k).ownBlock = some j → N k ≠ j := fun j hj => by
    obtain ⟨c, b⟩ := own_blk (h.own k hk) hj
    exact blocks_ne bN b (by decide)
  have RV : ∀ j, (V k).ownBlock = some j → R k ≠ j := fun j hj => by
    obtain ⟨c, b⟩ := own_blk (h.own k hk) hj
    exact blocks_ne bR b (by decide)
  have s6 : (w6.alloc o).drew.heap.size = w6.heap.size + 1 := by simp [World.drew]
  have hNl := num_lt h hk
  have hRl := (h.ring k hk hf).2.lt
  have os := ho.size
  have gN : N k ≠ g := by
    rcases hat with e | e
    · exact NV g e
    · omega
  have bN7 : w7.heap[N k]? = some (.cells #[.int .i64 (mo k), V k] 34 (0, 0)) := by
    rw [hgrow.block (N k) (by omega) (fun e => NV _ e.symm rfl)]
    show (w6.alloc o).heap[N k]? = _
    rw [heap_alloc_old _ _ (by omega), ho.block _ hNl NR, bN]
  have ho7 : Only (fun j => j = R k ∨ j = N k ∨ (V k).ownBlock = some j) W w7 :=
    ((((ho.mono (fun _ _ e => .inl e)).then_below (below_alloc (Below.refl _ _) o)).drew).grown hgrow (fun j e => .inl (.inr (.inr e))))
  refine h.turn hk hf (ho7.setCell (p := ⟨N k, 1, none⟩) (.inl (.inr (.inl rfl))) _) ?_ ?_ ?_ ?_
  · have e1 : push (mo k).toNat (ints (lastN (mo k).toNat (L k))) (.int .i64 y) = ints (lastN (mo k).toNat (L k ++ [y])) := by
      rw [show ints (lastN (mo k).toNat (L k)) = lastN (mo k).toNat (ints (L k)) from (lastN_map _ _ _).symm, push_last, show ints (L k) ++ [Value.int .i64 y] = ints (L k ++ [y]) by simp [ints], show lastN (mo k).toNat (ints (L k ++ [y])) = ints (lastN (mo k).toNat (L k ++ [y])) from lastN_map _ _ _]
    rw [e1] at hr
    refine hr.keep ?_
    rw [blk_setCell_other _ _ _ _ (Ne.symm NR), hgrow.block (R k) (by omega) (fun e => RV _ e.symm rfl)]
    show (w6.alloc o).heap[R k]? = _
    rw [heap_alloc_old _ _ hr.lt]
  · rw [heap_setCell_same _ _ _ _ _ _ bN7]; rfl
  · rw [List.length_append, List.length_singleton, show ints (L k ++ [y]) = ints (L k) ++ [Value.int .i64 y] by simp [ints]]
    exact own_keep hown (fun j hj => by
      simp [Value.ownBlock] at hj; subst hj
      exact blk_setCell_other _ _ _ _ (Ne.symm gN))
  · intro j hj
    simp [Value.ownBlock] at hj; subst hj
    rcases hat with e | e
    · exact .inl e
    · exact .inr (by omega)
/-- Clear, at both -/
theorem CR.clr (h : CR w W 2 A D M mo R N V L) {k : Nat} (hk : k < 2) (hf : fin (mo k) = true) {w6 : World} (hr : RingI 83 w6 (R k) (mo k).toNat []) (ho : Only (fun j => j = R k) W w6) :
    CR w (w6.setCell ⟨N k, 1, none⟩ (.slice none 0 0)) 2 A D M mo R N (upd V k (.slice none 0 0)) (upd L k []) := by
  obtain ⟨cR, bR⟩ := (h.ring k hk hf).2.blk
  have bN := (h.num k hk).2
  have NR : N k ≠ R k := blocks_ne bN bR (by decide)
  have bN6 : w6.heap[N k]? = some (.cells #[.int .i64 (mo k), V k] 34 (0, 0)) := (ho.block _ (num_lt h hk) NR).trans bN
  refine h.turn hk hf ((ho.mono (fun _ _ e => .inl e)).setCell (p := ⟨N k, 1, none⟩) (.inl (.inr (.inl rfl))) _) ?_ ?_ ?_ ?_
  · have e : ints (lastN (mo k).toNat ([] : List Int)) = [] := by simp [lastN, ints]
    rw [e]
    exact hr.keep (blk_setCell_other _ _ _ _ (Ne.symm NR))
  · rw [heap_setCell_same _ _ _ _ _ _ bN6]; rfl
  · exact World.ownsRow_nil _ _ _ _
  · intro j hj
    simp [Value.ownBlock] at hj

set_option maxRecDepth 1000000 in
set_option maxHeartbeats 32000000 in
theorem r16 (Ao : Option Addr) (co : Nat) (os : List OpV) (h : CR w W 2 A D M mo R N V L) (h0 : ∀ k, (L k).length = 0) (hO : RdO w Ao os) (hos : os.length ≤ 4194304) (u0 u1 u3 u4 u5 u6 u10 u11 u12 u13 u14 u15 u16 u17 u18 u19 u20 u21 u22 u23 u24 u25 u26 u27 u28 u29 u30 u31 u32 u33 u34 u35 u36 u37 u38 u39 u40 u41 u42 u43 u44 u45 u46 u47 u48 u49 u50 u51 u52 u53 u54 u55 u56 u57 u58 u59 u60 u61 u62 u63 u64 u65 u66 u67 u68 u69 u70 u71 u72 u73 u74 u75 u76 u77 u78 u79 u80 u81 u82 u83 u84 u85 u86 u87 u88 u89 u90 u91 u92 u93 u94 u95 u96 u97 u98 u99 u100 u101 u102 u103 u104 u105 u106 u107 u108 u109 u110 u111 u112 u113 u114 u115 u116 u117 u118 u119 u120 u121 u122 u123 u124 u125 u126 u127 u128 u129 u130 u131 u132 u133 u134 u135 u136 u137 u138 u139 u140 u141 u142 u143 u144 u145 u146 u147 u148 u149 u150 u151 u152 u153 u154 u155 u156 u157 u158 u159 u160 u161 u162 u163 u164 u165 u166 u167 u168 u169 u170 u171 u172 u173 u174 u175 u176 u177 u178 u179 u180 u181 u182 u183 u184 u185 u186 u187 u188 u189 u190 u191 u192 u193 u194 u195 : Value) :
    Code.wp Try.prog rest16 (bodyPost Try.prog Try.f3 (fun e w' => e = .returned (.bool true) ∧ Below w.heap.size w w')) ⟨#[u0, u1, .slice Ao os.length co, u3, u4, u5, u6, .bool true, .pointer (some ⟨A, 0, none⟩), .pointer (some ⟨D, 0, none⟩), u10, u11, u12, u13, u14, u15, u16, u17, u18, u19, u20, u21, u22, u23, u24, u25, u26, u27, u28, u29, u30, u31, u32, u33, u34, u35, u36, u37, u38, u39, u40, u41, u42, u43, u44, u45, u46, u47, u48, u49, u50, u51, u52, u53, u54, u55, u56, u57, u58, u59, u60, u61, u62, u63, u64, u65, u66, u67, u68, u69, u70, u71, u72, u73, u74, u75, u76, u77, u78, u79, u80, u81, u82, u83, u84, u85, u86, u87, u88, u89, u90, u91, u92, u93, u94, u95, u96, u97, u98, u99, u100, u101, u102, u103, u104, u105, u106, u107, u108, u109, u110, u111, u112, u113, u114, u115, u116, u117, u118, u119, u120, u121, u122, u123, u124, u125, u126, u127, u128, u129, u130, u131, u132, u133, u134, u135, u136, u137, u138, u139, u140, u141, u142, u143, u144, u145, u146, u147, u148, u149, u150, u151, u152, u153, u154, u155, u156, u157, u158, u159, u160, u161, u162, u163, u164, u165, u166, u167, u168, u169, u170, u171, u172, u173, u174, u175, u176, u177, u178, u179, u180, u181, u182, u183, u184, u185, u186, u187, u188, u189, u190, u191, u192, u193, u194, u195], []⟩ W := by
  have S := Lib.hid (show ∃ V L, CR w W 2 A D M mo R N V L ∧ ∀ k, (L k).length ≤ 0 from ⟨V, L, h, fun k => by have := h0 k; omega⟩)
  have HO := Lib.hid hO
  have hol := hO.1
  clear h hO h0
  conv => arg 2; whnf
  go_wp2_with fail
  rename_i K aK
  have HX := Lib.hid aK
  clear aK
  go_loopw [7, 15] (fun okv v wr => ∃ k : Nat, k ≤ os.length ∧ v = .int .i64 k ∧ okv = .bool true ∧ Hid (∃ V L, CR w wr 2 A D M mo R N V L ∧ ∀ j, (L j).length ≤ k)) (fun _ v _ => os.length - (intOf v).toNat)
  case atStart => exact ⟨0, by omega, rfl, rfl, S⟩
  case round =>
    clear S
    obtain ⟨i, hi, rfl, rfl, S⟩ := hrel
    obtain ⟨V, L, hS, hLB⟩ := S.out
    have S1 := Lib.hid hS
    have LB := Lib.hid hLB
    clear hS S hLB
    by_cases hlt : i < os.length
    · obtain ⟨b0, o0, rfl, hc⟩ := HO.out.2 (by omega)
      obtain ⟨cs, hl, hrg, hone, c0, c1, c2⟩ := hc i hlt
      have HRG : Hid (wr.rangeAt b0 (o0 + i * 23) cs) := Lib.hid (fun j v hv => pw_cell_below S1.out.below (hrg j v hv))
      have HI : Hid ((Try.prog.info? 50).map (·.size) = some cs.length) := Lib.hid (by rw [hl]; kernel_rfl)
      clear hrg hc
      have HL := Lib.hid (op_facts wr cs hl)
      obtain ⟨k, hk2, hbit⟩ := bit_and (os.getD i ⟨0, 0, 0⟩).on
      obtain ⟨⟨kind, on, y⟩, hop⟩ : ∃ o : OpV, os.getD i ⟨0, 0, 0⟩ = o := ⟨_, rfl⟩
      rw [hop] at c0 c1 c2 hbit
      clear hop
      dsimp only at c0 c1 c2 hbit
      have k0 : (0 : Int) ≤ (k : Int) := Int.natCast_nonneg _
      have k1 : (k : Int) < 2 := by omega
      obtain ⟨xr, hxr⟩ : ∃ v, Value.pointer (if fin (mo k) = true then some ⟨R k, 0, none⟩ else none) = v := ⟨_, rfl⟩
      have HT := Lib.hid (op_there wr cs hl)
      have H1 := Lib.hid (all_oneCell_toArray hone)
      have HI2 : Hid ((Try.prog.info? 50).map (·.size) = some cs.toArray.size) := Lib.hid (by rw [HI.out]; simp)
      clear hone
      cases hf : fin (mo k) with
      | false =>
        have hxr2 : xr = .pointer none := by rw [← hxr, hf, if_neg (by simp)]
        subst hxr2
        clear hf
        go_wp2_with (first
        | (refine wpList_load_mid rfl 50 _ rfl b0 (o0 + i * 23) rfl cs _ HRG.out Try.underlying50 rfl HI.out ?_)
        | (refine wpList_store_mid rfl 50 _ _ rfl wr.heap.size 0 cs.toArray rfl rfl HT.out HI2.out H1.out ?_
           change wpList _ _ _ _ _ ((wr.alloc (.cells opZ 50)).setCells wr.heap.size 0 cs)
           obtain ⟨HB5, HC5⟩ := HL.out
           obtain ⟨W5, hW5⟩ : ∃ W5, (wr.alloc (.cells opZ 50)).setCells wr.heap.size 0 cs = W5 := ⟨_, rfl⟩
           rw [hW5] at HB5 HC5 ⊢
           have q0 := HC5 0 _ c0
           have q1 := HC5 1 _ c1
           have q2 := HC5 2 _ c2
           have S5 := Lib.hid (S1.out.to HB5)
           have xA := S5.out.cA hk2
           have xD := S5.out.cD hk2
           have HB6 := Lib.hid HB5
           rw [hxr] at xA
           clear HB5 HC5 hW5 HL HT H1 HI HI2 HRG c0 c1 c2 S1))
        have S6 := S5
        exact ⟨⟨i + 1, by omega, by go_num, rfl, Lib.hid ⟨V, L, S6.out, fun k => by have := LB.out k; omega⟩⟩, by simp [intOf]; omega⟩
      | true =>
        have hxr2 : xr = .pointer (some ⟨R k, 0, none⟩) := by rw [← hxr, hf, if_pos rfl]
        subst hxr2
        have HF := Lib.hid hf
        clear hf
        have hRlt : R k < wr.heap.size := (S1.out.ring k hk2 HF.out).2.lt
        have hRop : R k ≠ wr.heap.size := by omega
        by_cases e1 : kind = 1
        · subst e1
          go_wp2_with (first
        | (refine wpList_load_mid rfl 50 _ rfl b0 (o0 + i * 23) rfl cs _ HRG.out Try.underlying50 rfl HI.out ?_)
        | (refine wpList_store_mid rfl 50 _ _ rfl wr.heap.size 0 cs.toArray rfl rfl HT.out HI2.out H1.out ?_
           change wpList _ _ _ _ _ ((wr.alloc (.cells opZ 50)).setCells wr.heap.size 0 cs)
           obtain ⟨HB5, HC5⟩ := HL.out
           obtain ⟨W5, hW5⟩ : ∃ W5, (wr.alloc (.cells opZ 50)).setCells wr.heap.size 0 cs = W5 := ⟨_, rfl⟩
           rw [hW5] at HB5 HC5 ⊢
           have q0 := HC5 0 _ c0
           have q1 := HC5 1 _ c1
           have q2 := HC5 2 _ c2
           have S5 := Lib.hid (S1.out.to HB5)
           have xA := S5.out.cA hk2
           have xD := S5.out.cD hk2
           have HB6 := Lib.hid HB5
           rw [hxr] at xA
           clear HB5 HC5 hW5 HL HT H1 HI HI2 HRG c0 c1 c2 S1))
          go_still_tail 5, (by kernel_rfl)
          change wpList _ _ _ _ _ W5.drew
          go_wp2_with fail
          have dS := S5.out.to ((Below.refl W5.heap.size W5).drew)
          refine (put_int (R k) (mo k).toNat _ y W5.drew (dS.ring k hk2 HF.out).2).mono ?_
          rintro e w6 ⟨rfl, hr, ho⟩
          obtain ⟨cR, bR⟩ := (dS.ring k hk2 HF.out).2.blk
          obtain ⟨cD, bD, _⟩ := dS.rd
          have bN := (dS.num k hk2).2
          have DR : D ≠ R k := blocks_ne bD bR (by decide)
          have NR : N k ≠ R k := blocks_ne bN bR (by decide)
          have hsz := ho.size
          have lD := dS.rd.lt
          have lN := num_lt dS hk2
          have lO : wr.heap.size < W5.drew.heap.size := World.block_lt_of_cell? W5.drew ⟨wr.heap.size, 2, none⟩ q2
          have xD6 : w6.cell? ⟨D, k, none⟩ = some (.pointer (some ⟨N k, 0, none⟩)) := ho.cell (p := ⟨D, k, none⟩) xD DR
          have xO6 : w6.cell? ⟨wr.heap.size, 2, none⟩ = some (.int .i64 y) := ho.cell (p := ⟨wr.heap.size, 2, none⟩) q2 (Ne.symm hRop)
          have bN6 := (ho.block _ lN NR).trans bN
          have own6 := own_keep (dS.own k hk2) (fun g hg => ho.block g ((dS.own k hk2).lt g hg).2 (by
            obtain ⟨c, b⟩ := own_blk (dS.own k hk2) hg
            exact blocks_ne b bR (by decide)))
          have vD : (V k).ownBlock ≠ some D := fun e => by
            obtain ⟨c, b⟩ := own_blk (dS.own k hk2) e
            exact blocks_ne bD b (by decide) rfl
          have vN : (V k).ownBlock ≠ some (N k) := fun e => by
            obtain ⟨c, b⟩ := own_blk (dS.own k hk2) e
            exact blocks_ne bN b (by decide) rfl
          have xN6 := (cell_of_row w6 (N k) 1 _ _ _ bN6).trans (show _ = some (V k) from rfl)
          have zN6 := frozen_of_row w6 (N k) 1 _ _ bN6
          have HPUT := Lib.hid (fun (w7 : World) (g cap : Nat) (o : Obj) h1 h2 h3 => CR.put (w7 := w7) (g := g) (cap := cap) (o := o) dS hk2 HF.out hr ho h1 h2 h3)
          have HOW := Lib.hid own6
          have HBN := Lib.hid bN6
          have nD := World.new_ne w6 ⟨D, k, none⟩ xD6
          have nO := World.new_ne w6 ⟨wr.heap.size, 2, none⟩ xO6
          have nN := World.new_ne w6 ⟨N k, 1, none⟩ xN6
          have aD : ((w6.alloc (.cells #[.int .i64 y] 2)).drew).cell? ⟨D, k, none⟩ = some (.pointer (some ⟨N k, 0, none⟩)) := by
            show (w6.alloc _).cell? _ = _
            exact pw_cell_below (below_alloc (Below.refl w6.heap.size w6) _) xD6
          have hbase : w.heap.size ≤ w6.heap.size := Nat.le_trans dS.below.size hsz
          have lbk := LB.out k
          obtain ⟨i0, hi0, hz0, hz1, hz2⟩ := info_parts infoI
          have HI := Lib.hid (And.intro hi0 (And.intro hz0 (And.intro hz1 hz2)))
          clear hi0 hz0 hz1 hz2 bR bD bN bN6 own6 dS hr ho q0 q1 q2 xA xD
          obtain ⟨v, hv⟩ : ∃ v, V k = v := ⟨_, rfl⟩
          rw [hv] at xN6 vD vN HOW HPUT HBN
          obtain ⟨n, hn⟩ : ∃ n, (L k).length = n := ⟨_, rfl⟩
          rw [hn] at HOW HPUT lbk
          have lDs : D < w6.heap.size := by omega
          have lNs : N k < w6.heap.size := by omega
          go_wp2_with fail
          trace_state
          go_region_law (first
            | (refine step_append_lies _ (by rfl) _ _ _ (by rfl) w.heap.size 2 i0 _ 1 8 Try.underlying32 HI.out.1 HI.out.2.1 HI.out.2.2.1 HI.out.2.2.2 rfl (by omega) v n _ (by rfl) ((HOW.out.alloc _).drew) ⟨w6.heap.size, 0, none⟩ 1 1 [.int .i64 y] (by rfl) (by rfl) (World.news_of_block (cs := #[.int .i64 y]) (t := 2) (fr := (0, 0)) (heap_alloc_new w6 _)) (by simp [Value.oneCell']) (by omega) (by unfold maxLen; omega) (by omega) (by simp; omega) (w6.heap.size + 1) (by simp) ?_; intro g cap w7 hown1 hgrow hat hgl; have xD7 : w7.cell? ⟨D, k, none⟩ = some (.pointer (some ⟨N k, 0, none⟩)) := (hgrow.cell_far _ (by simp; omega) (Ne.symm vD)).trans aD; have bN7 := (hgrow.block (N k) (by simp [World.drew]; omega) (fun e => vN e.symm)).trans ((heap_alloc_old w6 (.cells #[.int .i64 y] 2) lNs).trans HBN.out); have xN7 := (cell_of_row w7 (N k) 1 _ _ _ bN7).trans (show _ = some v from rfl); have zN7 := frozen_of_row w7 (N k) 1 _ _ bN7))
          all_goals (
            have S7 := Lib.hid (HPUT.out w7 g cap _ hown1 hgrow hat)
            clear hown1 hgrow hat bN7 xN7 zN7 xD7
            go_wp2
            exact ⟨⟨i + 1, by omega, by go_num, rfl, Lib.hid ⟨_, _, S7.out, fun j => by
              by_cases e : j = k
              · subst e; rw [upd_same]; simp; omega
              · rw [upd_ne _ _ e]; have := LB.out j; omega⟩⟩, by simp [intOf]; omega⟩)
        by_cases e2 : kind = 2
        · subst e2
          go_wp2_with (first
        | (refine wpList_load_mid rfl 50 _ rfl b0 (o0 + i * 23) rfl cs _ HRG.out Try.underlying50 rfl HI.out ?_)
        | (refine wpList_store_mid rfl 50 _ _ rfl wr.heap.size 0 cs.toArray rfl rfl HT.out HI2.out H1.out ?_
           change wpList _ _ _ _ _ ((wr.alloc (.cells opZ 50)).setCells wr.heap.size 0 cs)
           obtain ⟨HB5, HC5⟩ := HL.out
           obtain ⟨W5, hW5⟩ : ∃ W5, (wr.alloc (.cells opZ 50)).setCells wr.heap.size 0 cs = W5 := ⟨_, rfl⟩
           rw [hW5] at HB5 HC5 ⊢
           have q0 := HC5 0 _ c0
           have q1 := HC5 1 _ c1
           have q2 := HC5 2 _ c2
           have S5 := Lib.hid (S1.out.to HB5)
           have xA := S5.out.cA hk2
           have xD := S5.out.cD hk2
           have HB6 := Lib.hid HB5
           rw [hxr] at xA
           clear HB5 HC5 hW5 HL HT H1 HI HI2 HRG c0 c1 c2 S1))
          have dS := S5.out.to ((Below.refl W5.heap.size W5).drew)
          have d2 : W5.drew.cell? ⟨wr.heap.size, 2, none⟩ = some (.int .i64 y) := q2
          have dA : W5.drew.cell? ⟨A, k, none⟩ = some (.pointer (some ⟨R k, 0, none⟩)) := xA
          have dD : W5.drew.cell? ⟨D, k, none⟩ = some (.pointer (some ⟨N k, 0, none⟩)) := xD
          go_region_held3 (fun w' => (w'.cell? ⟨A, k, none⟩ = some (.pointer (some ⟨R k, 0, none⟩)) ∧ w'.cell? ⟨D, k, none⟩ = some (.pointer (some ⟨N k, 0, none⟩)) ∧ w'.cell? ⟨wr.heap.size, 2, none⟩ = some (.int .i64 y)) ∧ CR w w' 2 A D M mo R N V L)
            (first
              | (go_split_ands; refine ⟨⟨?_, ?_, ?_⟩, ?_⟩ <;> first | assumption | exact pw_cell_below hB (by assumption) | exact CR.to (by assumption) hB))
            (first
              | (go_at_call 11; refine (CR.now dS hk2 HF.out).mono ?_; rintro e w6 ⟨A', c', rfl, hr, hB⟩; have dS6 := dS.to hB; have KA := Lib.hid (ask_calls (R k) (mo k).toNat c' A' (lastN (mo k).toNat (L k)) y w6 ((dS.to hB).ring k hk2 HF.out).2 hr))
              | (go_at_call 10; refine KA.out.mono ?_; clear hB; rintro e w7 ⟨rfl, hB⟩))
          have S6 := Lib.hid (dS6.to hB)
          clear dS dS6 d2 dA dD hr hB KA
          go_wp2
          exact ⟨⟨i + 1, by omega, by go_num, rfl, Lib.hid ⟨V, L, S6.out, fun k => by have := LB.out k; omega⟩⟩, by simp [intOf]; omega⟩
        by_cases e3 : kind = 3
        · subst e3
          go_wp2_with (first
        | (refine wpList_load_mid rfl 50 _ rfl b0 (o0 + i * 23) rfl cs _ HRG.out Try.underlying50 rfl HI.out ?_)
        | (refine wpList_store_mid rfl 50 _ _ rfl wr.heap.size 0 cs.toArray rfl rfl HT.out HI2.out H1.out ?_
           change wpList _ _ _ _ _ ((wr.alloc (.cells opZ 50)).setCells wr.heap.size 0 cs)
           obtain ⟨HB5, HC5⟩ := HL.out
           obtain ⟨W5, hW5⟩ : ∃ W5, (wr.alloc (.cells opZ 50)).setCells wr.heap.size 0 cs = W5 := ⟨_, rfl⟩
           rw [hW5] at HB5 HC5 ⊢
           have q0 := HC5 0 _ c0
           have q1 := HC5 1 _ c1
           have q2 := HC5 2 _ c2
           have S5 := Lib.hid (S1.out.to HB5)
           have xA := S5.out.cA hk2
           have xD := S5.out.cD hk2
           have HB6 := Lib.hid HB5
           rw [hxr] at xA
           clear HB5 HC5 hW5 HL HT H1 HI HI2 HRG c0 c1 c2 S1))
          have dS := S5.out.to ((Below.refl W5.heap.size W5).drew)
          have d2 : W5.drew.cell? ⟨wr.heap.size, 2, none⟩ = some (.int .i64 y) := q2
          have dA : W5.drew.cell? ⟨A, k, none⟩ = some (.pointer (some ⟨R k, 0, none⟩)) := xA
          have dD : W5.drew.cell? ⟨D, k, none⟩ = some (.pointer (some ⟨N k, 0, none⟩)) := xD
          have e0 : (((lastN (mo k).toNat (L k)).length : Int) == ((lastN (mo k).toNat (L k)).length : Int)) = true := by simp
          go_region_held3 (fun w' => (w'.cell? ⟨A, k, none⟩ = some (.pointer (some ⟨R k, 0, none⟩)) ∧ w'.cell? ⟨D, k, none⟩ = some (.pointer (some ⟨N k, 0, none⟩)) ∧ w'.cell? ⟨wr.heap.size, 2, none⟩ = some (.int .i64 y)) ∧ CR w w' 2 A D M mo R N V L)
            (first
              | (go_split_ands; refine ⟨⟨?_, ?_, ?_⟩, ?_⟩ <;> first | assumption | exact pw_cell_below hB (by assumption) | exact CR.to (by assumption) hB))
            (first
              | (go_at_call 12; refine (CR.len dS hk2 HF.out).mono ?_; rintro e w6 ⟨rfl, rfl⟩)
              | (go_at_call 11; refine (CR.now dS hk2 HF.out).mono ?_; rintro e w6 ⟨A', c', rfl, hr, hB⟩))
          have S6 := Lib.hid (dS.to hB)
          clear dS d2 dA dD hr hB
          go_wp2
          exact ⟨⟨i + 1, by omega, by go_num, rfl, Lib.hid ⟨V, L, S6.out, fun k => by have := LB.out k; omega⟩⟩, by simp [intOf]; omega⟩
        by_cases e4 : kind = 4
        · subst e4
          go_wp2_with (first
        | (refine wpList_load_mid rfl 50 _ rfl b0 (o0 + i * 23) rfl cs _ HRG.out Try.underlying50 rfl HI.out ?_)
        | (refine wpList_store_mid rfl 50 _ _ rfl wr.heap.size 0 cs.toArray rfl rfl HT.out HI2.out H1.out ?_
           change wpList _ _ _ _ _ ((wr.alloc (.cells opZ 50)).setCells wr.heap.size 0 cs)
           obtain ⟨HB5, HC5⟩ := HL.out
           obtain ⟨W5, hW5⟩ : ∃ W5, (wr.alloc (.cells opZ 50)).setCells wr.heap.size 0 cs = W5 := ⟨_, rfl⟩
           rw [hW5] at HB5 HC5 ⊢
           have q0 := HC5 0 _ c0
           have q1 := HC5 1 _ c1
           have q2 := HC5 2 _ c2
           have S5 := Lib.hid (S1.out.to HB5)
           have xA := S5.out.cA hk2
           have xD := S5.out.cD hk2
           have HB6 := Lib.hid HB5
           rw [hxr] at xA
           clear HB5 HC5 hW5 HL HT H1 HI HI2 HRG c0 c1 c2 S1))
          refine (clear_int (R k) (mo k).toNat _ W5 (S5.out.ring k hk2 HF.out).2).mono ?_
          rintro e w6 ⟨rfl, hr, ho⟩
          have S6 := Lib.hid (S5.out.clr hk2 HF.out hr ho)
          have nb : (N k) ≠ R k := by
            obtain ⟨cR, bR⟩ := (S5.out.ring k hk2 HF.out).2.blk
            exact blocks_ne (S5.out.num k hk2).2 bR (by decide)
          have bn6 := (ho.block _ (num_lt S5.out hk2) nb).trans (S5.out.num k hk2).2
          have y1 := (cell_of_row w6 (N k) 1 _ _ _ bn6).trans rfl
          have y2 := frozen_of_row w6 (N k) 1 _ _ bn6
          have dD : w6.cell? ⟨D, k, none⟩ = some (.pointer (some ⟨N k, 0, none⟩)) := ho.cell xD (by
            obtain ⟨cR, bR⟩ := (S5.out.ring k hk2 HF.out).2.blk
            obtain ⟨cD, bD, _⟩ := S5.out.rd
            exact blocks_ne bD bR (by decide))
          clear hr ho bn6
          go_wp2
          exact ⟨⟨i + 1, by omega, by go_num, rfl, Lib.hid ⟨_, _, S6.out, fun j => by
            by_cases e : j = k
            · subst e; rw [upd_same]; simp
            · rw [upd_ne _ _ e]; have := LB.out j; omega⟩⟩, by simp [intOf]; omega⟩
        · have f1 : (kind == 1) = false := by rw [beq_eq_false_iff_ne]; exact e1
          have f2 : (kind == 2) = false := by rw [beq_eq_false_iff_ne]; exact e2
          have f3 : (kind == 3) = false := by rw [beq_eq_false_iff_ne]; exact e3
          have f4 : (kind == 4) = false := by rw [beq_eq_false_iff_ne]; exact e4
          go_wp2_with (first
        | (refine wpList_load_mid rfl 50 _ rfl b0 (o0 + i * 23) rfl cs _ HRG.out Try.underlying50 rfl HI.out ?_)
        | (refine wpList_store_mid rfl 50 _ _ rfl wr.heap.size 0 cs.toArray rfl rfl HT.out HI2.out H1.out ?_
           change wpList _ _ _ _ _ ((wr.alloc (.cells opZ 50)).setCells wr.heap.size 0 cs)
           obtain ⟨HB5, HC5⟩ := HL.out
           obtain ⟨W5, hW5⟩ : ∃ W5, (wr.alloc (.cells opZ 50)).setCells wr.heap.size 0 cs = W5 := ⟨_, rfl⟩
           rw [hW5] at HB5 HC5 ⊢
           have q0 := HC5 0 _ c0
           have q1 := HC5 1 _ c1
           have q2 := HC5 2 _ c2
           have S5 := Lib.hid (S1.out.to HB5)
           have xA := S5.out.cA hk2
           have xD := S5.out.cD hk2
           have HB6 := Lib.hid HB5
           rw [hxr] at xA
           clear HB5 HC5 hW5 HL HT H1 HI HI2 HRG c0 c1 c2 S1))
          have S6 := S5
          exact ⟨⟨i + 1, by omega, by go_num, rfl, Lib.hid ⟨V, L, S6.out, fun k => by have := LB.out k; omega⟩⟩, by simp [intOf]; omega⟩
    · obtain rfl : i = os.length := by omega
      go_wp2_with fail
      refine HX.out _ _ ?_
      exact r33 S1.out _ _ _ _ _ _ _ _ _ _ _ _ _ _ _ _ _ _ _ _ _ _ _ _ _ _ _ _ _ _ _ _ _ _ _ _ _ _ _ _ _ _ _ _ _ _ _ _ _ _ _ _ _ _ _ _ _ _ _ _ _ _ _ _ _ _ _ _ _ _ _ _ _ _ _ _ _ _ _ _ _ _ _ _ _ _ _ _ _ _ _ _ _ _ _ _ _ _ _ _ _ _ _ _ _ _ _ _ _ _ _ _ _ _ _ _ _ _ _ _ _ _ _ _ _ _ _ _ _ _ _ _ _ _ _ _ _ _ _ _ _ _ _ _ _ _ _ _ _ _ _ _ _ _ _ _ _ _ _ _ _ _ _ _ _ _ _ _ _ _ _ _ _ _ _ _ _ _ _ _ _ _ _ _ _ _ _ _ _ _ _ _ _
end Go.Proofs.Yteajaakhdnlpeaa.Q
