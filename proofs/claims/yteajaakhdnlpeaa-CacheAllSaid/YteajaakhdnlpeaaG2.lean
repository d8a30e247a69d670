import Derived.Test.YteajaakhdnlpeaaG
import Derived.RangeFuncNested
namespace Go.Proofs.Yteajaakhdnlpeaa.Q
open Go.RowKit Go.Shelf Go.Proofs.YteajaakhdnlpeaaW.PrintWords Go.Deep
set_option linter.unusedVariables false
set_option linter.unusedSimpArgs false
attribute [local go_sem] Oper.semAt_some
/-- does code begin with a region? -/
def startsR (id : Nat) : Code → Bool
  | .region j _ _ => Nat.beq j id
  | .seq a _ => startsR id a
  | _ => false
/-- what is left of a body from the statement on that begins with a region -/
def fromR (id : Nat) : Code → Code
  | .seq a b => match startsR id a with
    | true => .seq a b
    | false => fromR id b
  | c => c
noncomputable def rest21 : Code := fromR 21 (Try.f5.body.getD .skip)
noncomputable def rest27 : Code := fromR 27 (Try.f5.body.getD .skip)
theorem upto_last {α : Type} {f : Nat → α} {k : Nat} {ini : List α} {last : α} (h : upto f k = ini ++ [last]) : k = ini.length + 1 ∧ last = f ini.length := by
  cases k with
  | zero => simp [upto] at h
  | succ k =>
    rw [upto_succ] at h
    obtain ⟨h1, h2⟩ := List.append_inj' h rfl
    have e : ini.length = k := by rw [← h1, upto_length]
    rw [e]
    exact ⟨rfl, by simpa using h2.symm⟩
theorem getD_q (L : List Int) (i : Nat) : L.getD i 0 = L[i]?.getD 0 := by simp [List.getD_eq_getElem?_getD]

set_option maxRecDepth 1000000 in
set_option maxHeartbeats 16000000 in
theorem r27 (w W : World) (lv : Int) (A' : Option Addr) (c' e0 c lo hi : Nat) (sv : Value) (L1 : List Int) (hB : Below w.heap.size w W) (bl : Boxed W w.heap.size 3 (.int .i64 lv)) (br : Boxed W (w.heap.size + 1) 4 (.bool false)) (bw : Boxed W e0 32 (.slice A' L1.length c'))
    (rd : Rd W A' L1) (cl : c < W.heap.size) (cc : W.cell? ⟨c, 0, none⟩ = some sv) (hI : IntsAt lo hi W sv L1) (hhi : hi ≤ W.heap.size) (l64 : L1.length ≤ 64) (n0 nv D : Nat) (bn : Boxed W n0 3 (.int .i64 nv)) (hn : nv < L1.length → (nv : Int) = lv) (hD : W.heap[D]? = some (.deferred (some []))) (hwD : w.heap.size ≤ D)
    (u0 u1 u2 u3 u4 u5 u6 u7 u9 u12 u13 u14 u17 u19 u20 u21 u22 u23 u24 u25 u26 u27 u28 u29 u30 u31 u32 u33 u34 u35 u36 u37 u38 u39 u40 u41 u42 u43 u44 u45 u46 u47 u48 u49 u50 u51 u52 u53 u54 u55 u56 u57 u58 u59 u60 u61 u62 u63 u64 u65 u66 u67 u68 u69 u70 u71 u72 u73 u74 u75 u76 u77 u78 u79 u80 u81 u82 u83 u84 u85 u86 u87 u88 u89 u90 u91 u92 u93 u94 u95 u96 u97 u98 u99 u100 u101 u102 u103 u104 u105 u106 u107 u108 u109 u110 u111 u112 u113 u114 u115 u116 u117 u118 u119 u120 u121 u122 u123 u124 u125 u126 u127 u128 u129 u130 u131 u132 u133 u134 u135 u136 u137 u138 u139 u140 u141 u142 u143 u144 u145 u146 u147 u148 u149 u150 u151 u152 u153 u154 u155 u156 u157 u158 u159 u160 : Value) :
    Code.wpIn Fence.wide 3 Try.prog rest27 (bodyPostM Fence.wide 3 Try.prog Try.f5 (fun e w' => e = .returned (.bool true) ∧ Below w.heap.size w w')) ⟨#[u0, u1, u2, u3, u4, u5, u6, u7, .pointer (some ⟨w.heap.size, 0, none⟩), u9, .pointer (some ⟨w.heap.size + 1, 0, none⟩), .bool true, u12, u13, u14, .pointer (some ⟨e0, 0, none⟩), .func (.func 31) #[] #[.pointer (some ⟨c, 0, none⟩)], u17, .pointer (some ⟨n0, 0, none⟩), u19, u20, u21, u22, u23, u24, u25, u26, u27, u28, u29, u30, u31, u32, u33, u34, u35, u36, u37, u38, u39, u40, u41, u42, u43, u44, u45, u46, u47, u48, u49, u50, u51, u52, u53, u54, u55, u56, u57, u58, u59, u60, u61, u62, u63, u64, u65, u66, u67, u68, u69, u70, u71, u72, u73, u74, u75, u76, u77, u78, u79, u80, u81, u82, u83, u84, u85, u86, u87, u88, u89, u90, u91, u92, u93, u94, u95, u96, u97, u98, u99, u100, u101, u102, u103, u104, u105, u106, u107, u108, u109, u110, u111, u112, u113, u114, u115, u116, u117, u118, u119, u120, u121, u122, u123, u124, u125, u126, u127, u128, u129, u130, u131, u132, u133, u134, u135, u136, u137, u138, u139, u140, u141, u142, u143, u144, u145, u146, u147, u148, u149, u150, u151, u152, u153, u154, u155, u156, u157, u158, u159, u160], [{ target := .collected D, args := #[] }]⟩ W := by
  have cw := bw.cell
  have cn := bn.cell
  have clv := bl.cell
  have S := Lib.hid (And.intro hB (And.intro br (And.intro bw (And.intro rd (And.intro hI (And.intro hD cc))))))
  have k0 : (0 : Int) ≤ (nv : Int) := Int.natCast_nonneg _
  conv => arg 4; whnf
  have go : ∀ (K : Prop), (nv < L1.length → K) → (¬ nv < L1.length → K) → K := fun K a b => by by_cases h : nv < L1.length; exact a h; exact b h
  clear hB br bw rd hI hD cc bl bn
  apply go
  · intro hlt
    have hlv := hn hlt
    subst hlv
    have hlt2 : (nv : Int) < (L1.length : Int) := by omega
    have e9 : ((nv : Int) != (nv : Int)) = false := by simp
    gi_wp2_with fail
    have hk := Boxed.new W 3 (.int .i64 0)
    have hsz : (W.alloc (.cells #[.int .i64 0] 3)).heap.size = W.heap.size + 1 := by simp
    have hB1 := below_alloc (Below.refl W.heap.size W) (.cells #[.int .i64 0] 3)
    obtain ⟨W1, hW1⟩ : ∃ W1, W.alloc (.cells #[.int .i64 0] 3) = W1 := ⟨_, rfl⟩
    rw [hW1] at hk hsz hB1 ⊢
    have bl1 : w.heap.size ≤ W.heap.size := S.out.1.size
    have cl1 : w.heap.size + 1 < W.heap.size := S.out.2.1.lt
    have cl2 : e0 < W.heap.size := S.out.2.2.1.lt
    have dl : D < W.heap.size := (Array.getElem?_eq_some_iff.1 S.out.2.2.2.2.2.1).1
    refine range_own rfl (by decide) (gf := 31) (lb := #[.pointer (some ⟨c, 0, none⟩)]) rfl trivial (enters_of Try.func31 (by kernel_rfl) rfl)
      (each_stops Fence.wide 2 trivial rfl (by decide) c lo W.heap.size sv L1 (by omega) W1 (by omega) (by omega) (pw_cell_below hB1 S.out.2.2.2.2.2.2) (S.out.2.2.2.2.1.keep (fun j _ hj => hB1.block j (by omega)) hhi)) belowK_t (belowK_b (by omega)) (Below.refl _ _) (fun _ => rfl)
      (fun pre W' => Boxed W' W.heap.size 3 (.int .i64 (pre.length : Int)) ∧ Below W.heap.size W W')
      (fun _ pre W' => ∃ ini last, pre = ini ++ [last] ∧ ¬ (last.1 = ini.length ∧ last.2 = L1.getD ini.length 0))
      (OwnFrom.and (Own.from (boxed_own W.heap.size 3 (fun pre : List (Nat × Int) => .int .i64 (pre.length : Int))) _) (ownFrom_below (Nat.le_refl _) (by omega)))
      (fun _ => ownFrom_pure _ _)
      ⟨hk, hB1⟩ ?ex ?done ?stop
    case ex =>
      apply Exists.intro
      refine ⟨?assign, ?body⟩
      case assign =>
        intro l x W2 K hK
        gi_wp2
        exact hK
      case body =>
        rintro l pre ⟨i, v⟩ W2 ⟨hb, hB2⟩ hlt
        have x0 := hb.cell
        have z0 := hb.frozen
        have x1 := pw_cell_below hB2 S.out.2.2.1.cell
        have rc := (hB2.block _ cl1).trans S.out.2.1
        have x2 := Boxed.cell rc
        have z2 := Boxed.frozen rc
        obtain ⟨a, rfl, hc⟩ := S.out.2.2.2.1.2 (by omega)
        have x3 := pw_cell_below hB2 (hc pre.length hlt)
        have HP := Lib.hid (And.intro hb hB2)
        have p0 : (0 : Int) ≤ (pre.length : Int) := Int.natCast_nonneg _
        have p1 : (pre.length : Int) < (L1.length : Int) := by omega
        have p2 : (pre.length : Int) ≤ 64 := by omega
        obtain ⟨y, hy⟩ : ∃ y, L1.getD pre.length 0 = y := ⟨_, rfl⟩
        rw [hy] at x3
        have HY := Lib.hid hy
        clear hc rc hb hB2 hy
        dsimp only
        by_cases e1 : i = pre.length
        · subst e1
          have e2 : ((pre.length : Int) != (pre.length : Int)) = false := by simp
          by_cases e3 : v = y
          · subst e3
            have e4 : (v != v) = false := by simp
            gi_wp2
            exact ⟨(KeepsOthers.setCell _ _ _).from _, (Below.refl W.heap.size W2).setCell (p := ⟨W.heap.size, 0, none⟩) (Nat.le_refl _) _, by
              have := HP.out.1.set (.int .i64 ((pre.length : Int) + 1))
              rw [List.length_append, List.length_singleton]
              push_cast
              exact this, HP.out.2.setCell (p := ⟨W.heap.size, 0, none⟩) (Nat.le_refl _) _⟩
          · have e4 : (v != y) = true := by rw [bne_iff_ne]; exact e3
            gi_wp2
            exact ⟨(KeepsOthers.setCell _ _ _).from _, pre, _, rfl, fun h => e3 (h.2.trans HY.out)⟩
        · have e2 : ((i : Int) != (pre.length : Int)) = true := by rw [bne_iff_ne]; omega
          gi_wp2
          exact ⟨(KeepsOthers.setCell _ _ _).from _, pre, _, rfl, fun h => e1 h.1⟩
    case done =>
      rintro D2 ys W2 hD2 rfl ⟨hb, hB2⟩ hK
      rw [upto_length] at hb
      have x0 := hb.cell
      have x1 := pw_cell_below hB2 S.out.2.2.1.cell
      have rc : Boxed W2 (w.heap.size + 1) 4 (.bool false) := (hB2.block _ cl1).trans S.out.2.1
      have x2 := Boxed.cell rc
      have z2 := Boxed.frozen rc
      have hKD : W2.heap[D]? = some (.deferred (some [])) := (hB2.block _ dl).trans S.out.2.2.2.2.2.1
      have HK := Lib.hid (And.intro hK (And.intro hKD hB2))
      clear hK hKD rc hb
      gi_wp2
      have k1 := (KeepsOthers.setCell W2 ⟨w.heap.size + 1, 0, none⟩ (.bool true)).same D2 _ HK.out.1 rfl
      have k2 := (KeepsOthers.setCell W2 ⟨w.heap.size + 1, 0, none⟩ (.bool true)).same D _ HK.out.2.1 rfl
      have c5 := World.cell?_setCell_same' W2 ⟨w.heap.size + 1, 0, none⟩ (.bool true) (by rw [x2]; rfl)
      have b5 := (below_then S.out.1 S.out.1.size HK.out.2.2).setCell (p := ⟨w.heap.size + 1, 0, none⟩) (by simp) (.bool true)
      obtain ⟨W3, hW3⟩ : ∃ W3, W2.setCell ⟨w.heap.size + 1, 0, none⟩ (.bool true) = W3 := ⟨_, rfl⟩
      rw [hW3] at k1 k2 c5 b5 ⊢
      refine ⟨by simp, .inl ⟨_, _, rfl, run_takeDeferred k1, ?_⟩⟩
      have c6 := cell_kept c5 (grownBy_putObj' _ D2 (.deferred none)) (fun r e => by cases e; exact ⟨_, k1, rfl⟩)
      have k3 : (W3.putObj D2 (.deferred none)).heap[D]? = some (.deferred (some [])) := (World.putObj_heap_other (by omega)).trans k2
      have b6 := b5.trans (belowK_b (w := w) (Nat.le_refl _) W3 D2 _ (.deferred none) (by omega) k1 rfl rfl)
      refine ⟨by simp, .inl ⟨_, _, rfl, run_takeDeferred k3, ?_⟩⟩
      have c7 := cell_kept c6 (grownBy_putObj' _ D (.deferred none)) (fun r e => by cases e; exact ⟨_, k3, rfl⟩)
      have b7 := b6.trans (belowK_b (w := w) (Nat.le_refl _) _ D _ (.deferred none) (by omega) k3 rfl rfl)
      exact ⟨.bool true, res_cell rfl _ _ _ _ rfl c7, rfl, b7⟩
    case stop =>
      rintro D2 cd pre W2 hD2 ⟨k, hk, rfl⟩ ⟨ini, last, e1, e2⟩ hK
      obtain ⟨e3, e4⟩ := upto_last e1
      exact absurd ⟨by rw [e4], by rw [e4, getD_q]⟩ e2

  · intro hlt
    have hle : (L1.length : Int) ≤ (nv : Int) := by omega
    gi_wp2_with fail
    have hk := Boxed.new W 3 (.int .i64 0)
    have hsz : (W.alloc (.cells #[.int .i64 0] 3)).heap.size = W.heap.size + 1 := by simp
    have hB1 := below_alloc (Below.refl W.heap.size W) (.cells #[.int .i64 0] 3)
    obtain ⟨W1, hW1⟩ : ∃ W1, W.alloc (.cells #[.int .i64 0] 3) = W1 := ⟨_, rfl⟩
    rw [hW1] at hk hsz hB1 ⊢
    have bl1 : w.heap.size ≤ W.heap.size := S.out.1.size
    have cl1 : w.heap.size + 1 < W.heap.size := S.out.2.1.lt
    have cl2 : e0 < W.heap.size := S.out.2.2.1.lt
    have dl : D < W.heap.size := (Array.getElem?_eq_some_iff.1 S.out.2.2.2.2.2.1).1
    refine range_own rfl (by decide) (gf := 31) (lb := #[.pointer (some ⟨c, 0, none⟩)]) rfl trivial (enters_of Try.func31 (by kernel_rfl) rfl)
      (each_stops Fence.wide 2 trivial rfl (by decide) c lo W.heap.size sv L1 (by omega) W1 (by omega) (by omega) (pw_cell_below hB1 S.out.2.2.2.2.2.2) (S.out.2.2.2.2.1.keep (fun j _ hj => hB1.block j (by omega)) hhi)) belowK_t (belowK_b (by omega)) (Below.refl _ _) (fun _ => rfl)
      (fun pre W' => Boxed W' W.heap.size 3 (.int .i64 (pre.length : Int)) ∧ Below W.heap.size W W')
      (fun _ pre W' => ∃ ini last, pre = ini ++ [last] ∧ ¬ (last.1 = ini.length ∧ last.2 = L1.getD ini.length 0))
      (OwnFrom.and (Own.from (boxed_own W.heap.size 3 (fun pre : List (Nat × Int) => .int .i64 (pre.length : Int))) _) (ownFrom_below (Nat.le_refl _) (by omega)))
      (fun _ => ownFrom_pure _ _)
      ⟨hk, hB1⟩ ?ex ?done ?stop
    case ex =>
      apply Exists.intro
      refine ⟨?assign, ?body⟩
      case assign =>
        intro l x W2 K hK
        gi_wp2
        exact hK
      case body =>
        rintro l pre ⟨i, v⟩ W2 ⟨hb, hB2⟩ hlt
        have x0 := hb.cell
        have z0 := hb.frozen
        have x1 := pw_cell_below hB2 S.out.2.2.1.cell
        have rc := (hB2.block _ cl1).trans S.out.2.1
        have x2 := Boxed.cell rc
        have z2 := Boxed.frozen rc
        obtain ⟨a, rfl, hc⟩ := S.out.2.2.2.1.2 (by omega)
        have x3 := pw_cell_below hB2 (hc pre.length hlt)
        have HP := Lib.hid (And.intro hb hB2)
        have p0 : (0 : Int) ≤ (pre.length : Int) := Int.natCast_nonneg _
        have p1 : (pre.length : Int) < (L1.length : Int) := by omega
        have p2 : (pre.length : Int) ≤ 64 := by omega
        obtain ⟨y, hy⟩ : ∃ y, L1.getD pre.length 0 = y := ⟨_, rfl⟩
        rw [hy] at x3
        have HY := Lib.hid hy
        clear hc rc hb hB2 hy
        dsimp only
        by_cases e1 : i = pre.length
        · subst e1
          have e2 : ((pre.length : Int) != (pre.length : Int)) = false := by simp
          by_cases e3 : v = y
          · subst e3
            have e4 : (v != v) = false := by simp
            gi_wp2
            exact ⟨(KeepsOthers.setCell _ _ _).from _, (Below.refl W.heap.size W2).setCell (p := ⟨W.heap.size, 0, none⟩) (Nat.le_refl _) _, by
              have := HP.out.1.set (.int .i64 ((pre.length : Int) + 1))
              rw [List.length_append, List.length_singleton]
              push_cast
              exact this, HP.out.2.setCell (p := ⟨W.heap.size, 0, none⟩) (Nat.le_refl _) _⟩
          · have e4 : (v != y) = true := by rw [bne_iff_ne]; exact e3
            gi_wp2
            exact ⟨(KeepsOthers.setCell _ _ _).from _, pre, _, rfl, fun h => e3 (h.2.trans HY.out)⟩
        · have e2 : ((i : Int) != (pre.length : Int)) = true := by rw [bne_iff_ne]; omega
          gi_wp2
          exact ⟨(KeepsOthers.setCell _ _ _).from _, pre, _, rfl, fun h => e1 h.1⟩
    case done =>
      rintro D2 ys W2 hD2 rfl ⟨hb, hB2⟩ hK
      rw [upto_length] at hb
      have x0 := hb.cell
      have x1 := pw_cell_below hB2 S.out.2.2.1.cell
      have rc : Boxed W2 (w.heap.size + 1) 4 (.bool false) := (hB2.block _ cl1).trans S.out.2.1
      have x2 := Boxed.cell rc
      have z2 := Boxed.frozen rc
      have hKD : W2.heap[D]? = some (.deferred (some [])) := (hB2.block _ dl).trans S.out.2.2.2.2.2.1
      have HK := Lib.hid (And.intro hK (And.intro hKD hB2))
      clear hK hKD rc hb
      gi_wp2
      have k1 := (KeepsOthers.setCell W2 ⟨w.heap.size + 1, 0, none⟩ (.bool true)).same D2 _ HK.out.1 rfl
      have k2 := (KeepsOthers.setCell W2 ⟨w.heap.size + 1, 0, none⟩ (.bool true)).same D _ HK.out.2.1 rfl
      have c5 := World.cell?_setCell_same' W2 ⟨w.heap.size + 1, 0, none⟩ (.bool true) (by rw [x2]; rfl)
      have b5 := (below_then S.out.1 S.out.1.size HK.out.2.2).setCell (p := ⟨w.heap.size + 1, 0, none⟩) (by simp) (.bool true)
      obtain ⟨W3, hW3⟩ : ∃ W3, W2.setCell ⟨w.heap.size + 1, 0, none⟩ (.bool true) = W3 := ⟨_, rfl⟩
      rw [hW3] at k1 k2 c5 b5 ⊢
      refine ⟨by simp, .inl ⟨_, _, rfl, run_takeDeferred k1, ?_⟩⟩
      have c6 := cell_kept c5 (grownBy_putObj' _ D2 (.deferred none)) (fun r e => by cases e; exact ⟨_, k1, rfl⟩)
      have k3 : (W3.putObj D2 (.deferred none)).heap[D]? = some (.deferred (some [])) := (World.putObj_heap_other (by omega)).trans k2
      have b6 := b5.trans (belowK_b (w := w) (Nat.le_refl _) W3 D2 _ (.deferred none) (by omega) k1 rfl rfl)
      refine ⟨by simp, .inl ⟨_, _, rfl, run_takeDeferred k3, ?_⟩⟩
      have c7 := cell_kept c6 (grownBy_putObj' _ D (.deferred none)) (fun r e => by cases e; exact ⟨_, k3, rfl⟩)
      have b7 := b6.trans (belowK_b (w := w) (Nat.le_refl _) _ D _ (.deferred none) (by omega) k3 rfl rfl)
      exact ⟨.bool true, res_cell rfl _ _ _ _ rfl c7, rfl, b7⟩
    case stop =>
      rintro D2 cd pre W2 hD2 ⟨k, hk, rfl⟩ ⟨ini, last, e1, e2⟩ hK
      obtain ⟨e3, e4⟩ := upto_last e1
      exact absurd ⟨by rw [e4], by rw [e4, getD_q]⟩ e2


set_option maxRecDepth 1000000 in
set_option maxHeartbeats 16000000 in
theorem r21 (w W : World) (lv : Int) (A' : Option Addr) (c' e0 c lo hi : Nat) (sv : Value) (L1 : List Int) (hB : Below w.heap.size w W) (bl : Boxed W w.heap.size 3 (.int .i64 lv)) (br : Boxed W (w.heap.size + 1) 4 (.bool false)) (bw : Boxed W e0 32 (.slice A' L1.length c'))
    (rd : Rd W A' L1) (cl : c < W.heap.size) (cc : W.cell? ⟨c, 0, none⟩ = some sv) (hI : IntsAt lo hi W sv L1) (hhi : hi ≤ W.heap.size) (l64 : L1.length ≤ 64) (u0 u1 u2 u3 u4 u5 u6 u7 u9 u12 u13 u14 u17 u18 u19 u20 u21 u22 u23 u24 u25 u26 u27 u28 u29 u30 u31 u32 u33 u34 u35 u36 u37 u38 u39 u40 u41 u42 u43 u44 u45 u46 u47 u48 u49 u50 u51 u52 u53 u54 u55 u56 u57 u58 u59 u60 u61 u62 u63 u64 u65 u66 u67 u68 u69 u70 u71 u72 u73 u74 u75 u76 u77 u78 u79 u80 u81 u82 u83 u84 u85 u86 u87 u88 u89 u90 u91 u92 u93 u94 u95 u96 u97 u98 u99 u100 u101 u102 u103 u104 u105 u106 u107 u108 u109 u110 u111 u112 u113 u114 u115 u116 u117 u118 u119 u120 u121 u122 u123 u124 u125 u126 u127 u128 u129 u130 u131 u132 u133 u134 u135 u136 u137 u138 u139 u140 u141 u142 u143 u144 u145 u146 u147 u148 u149 u150 u151 u152 u153 u154 u155 u156 u157 u158 u159 u160 : Value) :
    Code.wpIn Fence.wide 3 Try.prog rest21 (bodyPostM Fence.wide 3 Try.prog Try.f5 (fun e w' => e = .returned (.bool true) ∧ Below w.heap.size w w')) ⟨#[u0, u1, u2, u3, u4, u5, u6, u7, .pointer (some ⟨w.heap.size, 0, none⟩), u9, .pointer (some ⟨w.heap.size + 1, 0, none⟩), .bool true, u12, u13, u14, .pointer (some ⟨e0, 0, none⟩), .func (.func 31) #[] #[.pointer (some ⟨c, 0, none⟩)], u17, u18, u19, u20, u21, u22, u23, u24, u25, u26, u27, u28, u29, u30, u31, u32, u33, u34, u35, u36, u37, u38, u39, u40, u41, u42, u43, u44, u45, u46, u47, u48, u49, u50, u51, u52, u53, u54, u55, u56, u57, u58, u59, u60, u61, u62, u63, u64, u65, u66, u67, u68, u69, u70, u71, u72, u73, u74, u75, u76, u77, u78, u79, u80, u81, u82, u83, u84, u85, u86, u87, u88, u89, u90, u91, u92, u93, u94, u95, u96, u97, u98, u99, u100, u101, u102, u103, u104, u105, u106, u107, u108, u109, u110, u111, u112, u113, u114, u115, u116, u117, u118, u119, u120, u121, u122, u123, u124, u125, u126, u127, u128, u129, u130, u131, u132, u133, u134, u135, u136, u137, u138, u139, u140, u141, u142, u143, u144, u145, u146, u147, u148, u149, u150, u151, u152, u153, u154, u155, u156, u157, u158, u159, u160], []⟩ W := by
  have S := Lib.hid (And.intro hB (And.intro br (And.intro bw (And.intro rd (And.intro hI (And.intro bl cc))))))
  conv => arg 4; whnf
  clear hB br bw rd hI cc bl
  gi_wp2_with fail
  have hk := Boxed.new W 3 (.int .i64 0)
  have hsz : (W.alloc (.cells #[.int .i64 0] 3)).heap.size = W.heap.size + 1 := by simp
  have hB1 := below_alloc (Below.refl W.heap.size W) (.cells #[.int .i64 0] 3)
  obtain ⟨W1, hW1⟩ : ∃ W1, W.alloc (.cells #[.int .i64 0] 3) = W1 := ⟨_, rfl⟩
  rw [hW1] at hk hsz hB1 ⊢
  rename_i K aK
  have HA := Lib.hid aK
  clear aK
  have bl1 : w.heap.size ≤ W.heap.size := S.out.1.size
  have cl1 : w.heap.size + 1 < W.heap.size := S.out.2.1.lt
  have cl2 : e0 < W.heap.size := S.out.2.2.1.lt
  refine range_own rfl (by decide) (gf := 31) (lb := #[.pointer (some ⟨c, 0, none⟩)]) rfl trivial (enters_of Try.func31 (by kernel_rfl) rfl)
    (each_stops Fence.wide 2 trivial rfl (by decide) c lo W.heap.size sv L1 (by omega) W1 (by omega) (by omega) (pw_cell_below hB1 S.out.2.2.2.2.2.2) (S.out.2.2.2.2.1.keep (fun j _ hj => hB1.block j (by omega)) hhi)) belowK_t (belowK_b (by omega)) (Below.refl _ _) (fun _ => rfl)
    (fun pre W' => Boxed W' W.heap.size 3 (.int .i64 (pre.length : Int)) ∧ Below W.heap.size W W')
    (fun cd pre W' => (cd = .exit 4 ∧ ∃ ini last, pre = ini ++ [last] ∧ Boxed W' W.heap.size 3 (.int .i64 (ini.length : Int)) ∧ (last.1 = ini.length → last.2 = L1.getD ini.length 0 → (ini.length : Int) = lv)) ∧ Below W.heap.size W W')
    (OwnFrom.and (Own.from (boxed_own W.heap.size 3 (fun pre : List (Nat × Int) => .int .i64 (pre.length : Int))) _) (ownFrom_below (Nat.le_refl _) (by omega)))
    (fun _ => OwnFrom.and (Own.from (fun s A B row hs hg hr => by
      obtain ⟨hc, ini, last, e1, hb, e2⟩ := hs
      exact ⟨hc, ini, last, e1, hb.kept hg (fun e' => by obtain ⟨o, ho, hc⟩ := hr _ e'.symm; rw [show A.heap[_]? = _ from hb] at ho; cases ho; cases hc), e2⟩) _) (ownFrom_below (Nat.le_refl _) (by omega)))
    ⟨hk, hB1⟩ ?ex ?done ?stop
  case ex =>
    apply Exists.intro
    refine ⟨?assign, ?body⟩
    case assign =>
      intro l x W2 K hK
      gi_wp2
      exact hK
    case body =>
      rintro l pre ⟨i, v⟩ W2 ⟨hb, hB2⟩ hlt
      have x0 := hb.cell
      have z0 := hb.frozen
      have x1 := pw_cell_below hB2 S.out.2.2.1.cell
      have x2 := pw_cell_below hB2 S.out.2.2.2.2.2.1.cell
      obtain ⟨a, rfl, hc⟩ := S.out.2.2.2.1.2 (by omega)
      have x3 := pw_cell_below hB2 (hc pre.length hlt)
      have HP := Lib.hid (And.intro hb hB2)
      have p0 : (0 : Int) ≤ (pre.length : Int) := Int.natCast_nonneg _
      have p1 : (pre.length : Int) < (L1.length : Int) := by omega
      have p2 : (pre.length : Int) ≤ 64 := by omega
      obtain ⟨y, hy⟩ : ∃ y, L1.getD pre.length 0 = y := ⟨_, rfl⟩
      rw [hy] at x3
      have HY := Lib.hid hy
      clear hc hb hB2 hy
      dsimp only
      by_cases e1 : i = pre.length
      · subst e1
        have e2 : ((pre.length : Int) != (pre.length : Int)) = false := by simp
        by_cases e3 : v = y
        · subst e3
          have e4 : (v != v) = false := by simp
          by_cases e5 : (pre.length : Int) = lv
          · subst e5
            have e6 : ((pre.length : Int) == (pre.length : Int)) = true := by simp
            gi_wp2
            exact ⟨KeepsFrom.refl _ _, ⟨rfl, pre, _, rfl, HP.out.1, fun _ _ => rfl⟩, HP.out.2⟩
          · have e6 : ((pre.length : Int) == lv) = false := by rw [beq_eq_false_iff_ne]; exact e5
            gi_wp2
            exact ⟨(KeepsOthers.setCell _ _ _).from _, (Below.refl W.heap.size W2).setCell (p := ⟨W.heap.size, 0, none⟩) (Nat.le_refl _) _, by
              have := HP.out.1.set (.int .i64 ((pre.length : Int) + 1))
              rw [List.length_append, List.length_singleton]
              push_cast
              exact this, HP.out.2.setCell (p := ⟨W.heap.size, 0, none⟩) (Nat.le_refl _) _⟩
        · have e4 : (v != y) = true := by rw [bne_iff_ne]; exact e3
          gi_wp2
          exact ⟨KeepsFrom.refl _ _, ⟨rfl, pre, _, rfl, HP.out.1, fun _ h => absurd (h.trans HY.out) e3⟩, HP.out.2⟩
      · have e2 : ((i : Int) != (pre.length : Int)) = true := by rw [bne_iff_ne]; omega
        gi_wp2
        exact ⟨KeepsFrom.refl _ _, ⟨rfl, pre, _, rfl, HP.out.1, fun h _ => absurd h e1⟩, HP.out.2⟩
  case done =>
    rintro D ys W2 hD rfl ⟨hb, hB2⟩ hK
    rw [upto_length] at hb
    refine HA.out _ _ ?_
    exact r27 w W2 lv A' c' e0 c lo hi sv L1 (below_then S.out.1 S.out.1.size hB2) ((hB2.block _ (by omega)).trans S.out.2.2.2.2.2.1) ((hB2.block _ cl1).trans S.out.2.1) ((hB2.block _ cl2).trans S.out.2.2.1)
      (S.out.2.2.2.1.below hB2) (by have := hB2.size; omega) (pw_cell_below hB2 S.out.2.2.2.2.2.2) (S.out.2.2.2.2.1.keep (fun j _ hj => hB2.block j (by omega)) (Nat.le_refl _)) (by have := hB2.size; omega) l64 W.heap.size L1.length D hb (fun h => absurd h (by omega)) hK (by omega) _ _ _ _ _ _ _ _ _ _ _ _ _ _ _ _ _ _ _ _ _ _ _ _ _ _ _ _ _ _ _ _ _ _ _ _ _ _ _ _ _ _ _ _ _ _ _ _ _ _ _ _ _ _ _ _ _ _ _ _ _ _ _ _ _ _ _ _ _ _ _ _ _ _ _ _ _ _ _ _ _ _ _ _ _ _ _ _ _ _ _ _ _ _ _ _ _ _ _ _ _ _ _ _ _ _ _ _ _ _ _ _ _ _ _ _ _ _ _ _ _ _ _ _ _ _ _ _ _ _ _ _ _ _ _ _ _ _ _ _ _ _ _ _ _ _ _ _ _ _ _ _ _ _ _
  case stop =>
    rintro D cd pre W2 hD ⟨k, hk2, rfl⟩ ⟨⟨rfl, ini, last, e1, hb, e2⟩, hB2⟩ hK
    obtain ⟨e3, e4⟩ := upto_last e1
    have e5 : ini.length < L1.length → (ini.length : Int) = lv := fun _ => e2 (by rw [e4]) (by rw [e4, getD_q])
    gi_wp2
    refine HA.out _ _ ?_
    exact r27 w W2 lv A' c' e0 c lo hi sv L1 (below_then S.out.1 S.out.1.size hB2) ((hB2.block _ (by omega)).trans S.out.2.2.2.2.2.1) ((hB2.block _ cl1).trans S.out.2.1) ((hB2.block _ cl2).trans S.out.2.2.1)
      (S.out.2.2.2.1.below hB2) (by have := hB2.size; omega) (pw_cell_below hB2 S.out.2.2.2.2.2.2) (S.out.2.2.2.2.1.keep (fun j _ hj => hB2.block j (by omega)) (Nat.le_refl _)) (by have := hB2.size; omega) l64 W.heap.size ini.length D hb e5 hK (by omega) _ _ _ _ _ _ _ _ _ _ _ _ _ _ _ _ _ _ _ _ _ _ _ _ _ _ _ _ _ _ _ _ _ _ _ _ _ _ _ _ _ _ _ _ _ _ _ _ _ _ _ _ _ _ _ _ _ _ _ _ _ _ _ _ _ _ _ _ _ _ _ _ _ _ _ _ _ _ _ _ _ _ _ _ _ _ _ _ _ _ _ _ _ _ _ _ _ _ _ _ _ _ _ _ _ _ _ _ _ _ _ _ _ _ _ _ _ _ _ _ _ _ _ _ _ _ _ _ _ _ _ _ _ _ _ _ _ _ _ _ _ _ _ _ _ _ _ _ _ _ _ _ _ _ _

end Go.Proofs.Yteajaakhdnlpeaa.Q
