import Derived.Test.YtkhnjckkjdldbaaDoorF
import Derived.Lib.IndexLaws
namespace Go.Proofs.YtkhnjckkjdldbaaDoor.Q
open Go.RowKit Go.Shelf Go.Proofs.YtkhnjckkjdldbaaDoorW.PrintWords Go.Proofs.YtkhnjckkjdldbaaDoor.Pr
set_option linter.unusedVariables false
set_option linter.unusedSimpArgs false
attribute [local go_sem] Oper.semAt_some

/-! strings.SplitSeq AT A SLASH -/
theorem extract_extract (p : ByteArray) (a i j : Nat) (ha : a ≤ p.size) (hj : j ≤ p.size - a) : (p.extract a p.size).extract i j = p.extract (a + i) (a + j) := by
  rw [ByteArray.extract_extract]
  congr 1
  omega
theorem data_getD (s : ByteArray) (i : Nat) (h : i < s.size) : s.data.toList[i]? = some (s.get! i) := by
  rw [Utf8W.get!_of_lt s i h]
  have : i < s.data.toList.length := by rw [← Lib.size_eq]; exact h
  rw [List.getElem?_eq_getElem this]
  rfl
theorem index_none (p : ByteArray) (a : Nat) (ha : a ≤ p.size) (h : Lib.indexByte (p.extract a p.size).data.toList 47 = -1) : endAt p a = p.size := by
  refine endAt_is ha (Nat.le_refl _) (fun j h1 h2 h3 => ?_) (fun h => by omega)
  have := Lib.indexByte_none h (j - a)
  have hz : (p.extract a p.size).size = p.size - a := by rw [ByteArray.size_extract]; omega
  rw [data_getD _ _ (by omega), extract_get p a _ ha, show a + (j - a) = j by omega] at this
  exact this (congrArg some (UInt8.toNat_inj.1 (by rw [h3]; rfl)))
theorem index_some (p : ByteArray) (a o : Nat) (ha : a ≤ p.size) (h : Lib.indexByte (p.extract a p.size).data.toList 47 = (o : Nat)) : a + o < p.size ∧ endAt p a = a + o := by
  obtain ⟨h1, h2⟩ := Lib.indexByte_some h
  have hz : (p.extract a p.size).size = p.size - a := by rw [ByteArray.size_extract]; omega
  have ho : o < (p.extract a p.size).size := by
    rw [Lib.size_eq]
    exact (List.getElem?_eq_some_iff.1 h1).1
  refine ⟨by omega, endAt_is (by omega) (by omega) (fun j h3 h4 h5 => ?_) (fun _ => ?_)⟩
  · have := h2 (j - a) (by omega)
    rw [data_getD _ _ (by omega), extract_get p a _ ha, show a + (j - a) = j by omega] at this
    exact this (congrArg some (UInt8.toNat_inj.1 (by rw [h5]; rfl)))
  · rw [data_getD _ _ ho, extract_get p a _ ha] at h1
    have := Option.some.inj h1
    rw [this]; rfl
theorem index_cases (l : List UInt8) (c : UInt8) : Lib.indexByte l c = -1 ∨ ∃ o : Nat, Lib.indexByte l c = o := by
  have := Lib.indexByte_ge l c
  by_cases h : Lib.indexByte l c = -1
  · exact .inl h
  · exact .inr ⟨(Lib.indexByte l c).toNat, by omega⟩
theorem blk_other (W : World) (a : Addr) (u : Value) {k : Nat} (h : k ≠ a.block) : (W.setCell a u).heap[k]? = W.heap[k]? := Below.heap_setCell _ _ _ _ h
def strLen (W : World) (b : Nat) : Nat := match W.cell? ⟨b, 0, none⟩ with
  | some (.string s) => s.size
  | _ => 0
theorem strLen_of {W : World} {b : Nat} {s : ByteArray} (h : W.cell? ⟨b, 0, none⟩ = some (.string s)) : strLen W b = s.size := by simp [strLen, h]
def encT (x : ByteArray) : Array Value := #[.string x]
def NextOf (p : ByteArray) (pre : List ByteArray) (x : ByteArray) : Prop := ∃ rest, segs p 1 = pre ++ x :: rest
set_option maxRecDepth 100000 in
set_option maxHeartbeats 4000000 in
theorem split_gives (n : Nat) (hn : 1 ≤ n) (b : Nat) (p : ByteArray) (hp : 1 ≤ p.size) (hs : p.size ≤ 4294967296) :
    GivesZ Fence.wide n Tryd.prog 62 #[.pointer (some ⟨b + 1, 0, none⟩), .pointer (some ⟨b, 0, none⟩), .pointer (some ⟨b + 2, 0, none⟩)] encT
      (fun k => k = b ∨ k = b + 1 ∨ k = b + 2) (fun k => k = b) (segs p 1).length (NextOf p) (fun xs => xs = segs p 1) (fun _ => True)
      (fun W => W.heap[b]? = some (.cells #[.string (p.extract 1 p.size)] 9 (0, 0)) ∧ W.heap[b + 1]? = some (.cells #[.string ⟨#[47]⟩] 9 (0, 0)) ∧ W.heap[b + 2]? = some (.cells #[.int .i64 0] 3 (0, 0))) :=
  fun l J Jx W ⟨hb0, hb1, hb2⟩ hZ hJ hJx hJz hY h0 => by
    have HJ := Lib.hid hJ
    have HJz := Lib.hid hJz
    have HY := Lib.hid hY
    have H1 := Lib.hid (And.intro hb1 hb2)
    have y1 : W.cell? ⟨b + 1, 0, none⟩ = some (.string ⟨#[47]⟩) := (cell_of_row W (b + 1) 0 _ _ _ hb1).trans rfl
    have h0' := Lib.hid (And.intro h0 hb0)
    clear hJ hJx hJz hY h0 hb0 hb1 hb2
    refine callsIn_of_wp Tryd.func62 rfl trivial ?_ rfl
    simp only [Tryd.ntmps62, List.size_toArray, List.length_cons, List.length_nil, Nat.reduceAdd, Nat.reduceSub, Array.replicate_succ, Array.replicate_zero, List.push_toArray, List.append_toArray, List.nil_append, List.cons_append]
    gi_wp2_with fail
    clear y1
    gi_loopw [] (fun wr => ∃ (a : Nat) (pre : List ByteArray), a ≤ p.size ∧ Hid (segs p 1 = pre ++ segs p a) ∧ Hid (J pre wr ∧ wr.heap[b]? = some (.cells #[.string (p.extract a p.size)] 9 (0, 0)) ∧ wr.heap[b + 1]? = some (.cells #[.string ⟨#[47]⟩] 9 (0, 0)) ∧ wr.heap[b + 2]? = some (.cells #[.int .i64 0] 3 (0, 0)))) (fun wr => strLen wr b)
    case atStart => exact ⟨1, [], hp, Lib.hid rfl, Lib.hid ⟨h0'.out.1, h0'.out.2, H1.out.1, H1.out.2⟩⟩
    case round =>
      clear h0' H1
      obtain ⟨a, pre, ha, HSg, T⟩ := hrel
      have x0 : wr.cell? ⟨b, 0, none⟩ = some (.string (p.extract a p.size)) := (cell_of_row wr b 0 _ _ _ T.out.2.1).trans rfl
      have x1 : wr.cell? ⟨b + 1, 0, none⟩ = some (.string ⟨#[47]⟩) := (cell_of_row wr (b + 1) 0 _ _ _ T.out.2.2.1).trans rfl
      have x2 : wr.cell? ⟨b + 2, 0, none⟩ = some (.int .i64 0) := (cell_of_row wr (b + 2) 0 _ _ _ T.out.2.2.2).trans rfl
      have hz : (p.extract a p.size).size = p.size - a := by rw [ByteArray.size_extract]; omega
      have HL := Lib.hid (strLen_of x0)
      rcases index_cases (p.extract a p.size).data.toList 47 with hi | ⟨o, hi⟩
      · -- no slash any more: the rest
        have he := index_none p a ha hi
        have hseg : segs p a = [p.extract a p.size] := by rw [segs_in ha, he, segs_out (by omega)]
        have HE := Lib.hid hseg
        have HI := Lib.hid (Tryd.strings_Index_one (p.extract a p.size) 47 wr)
        rw [hi] at HI
        have hall : segs p 1 = pre ++ [p.extract a p.size] := by rw [HSg.out, hseg]
        obtain ⟨fn, tmps, assign, body, hy, hR⟩ := HY.out pre (p.extract a p.size) wr T.out.1 (by rw [hall]; simp) ⟨[], by rw [hall]⟩
        have HAll := Lib.hid hall
        simp only [encT] at hy
        have HR := Lib.hid hR
        obtain ⟨s, hsn⟩ : ∃ s, p.extract a p.size = s := ⟨_, rfl⟩
        rw [hsn] at x0 HI hy
        have HSN := Lib.hid hsn
        clear hi he hseg hall hR hsn hz
        gi_wp2_with fail
        refine ⟨trivial, (callsIn_wide.2 HI.out).mono ?_⟩
        rintro e w1 ⟨rfl, rfl⟩
        gi_wp2_with fail
        refine HR.out.mono ?_
        rintro e W3 (⟨rfl, hJ3, hk3⟩ | ⟨rfl, hJx3⟩)
        · have HJ3 := Lib.hid hJ3
          clear hJ3 hk3 hy
          gi_wp2
          go_end0
          exact ⟨⟨_, rfl⟩, .inl ⟨_, rfl, by rw [HAll.out]; exact HJ3.out⟩⟩
        · have HJ3 := Lib.hid hJx3
          clear hJx3 hy
          gi_wp2
          go_end0
          exact ⟨⟨_, rfl⟩, .inr ⟨_, trivial, HJ3.out⟩⟩
      · obtain ⟨ho, he⟩ := index_some p a o ha hi
        have hseg : segs p a = p.extract a (a + o) :: segs p (a + o + 1) := by rw [segs_in ha, he]
        have hx : (p.extract a p.size).extract 0 o = p.extract a (a + o) := by rw [extract_extract p a 0 o ha (by omega)]; rfl
        have hx2 : (p.extract a p.size).extract (o + 1) (p.extract a p.size).size = p.extract (a + o + 1) p.size := by
          rw [hz, extract_extract p a (o + 1) (p.size - a) ha (Nat.le_refl _)]; congr 1; omega
        have HI := Lib.hid (Tryd.strings_Index_one (p.extract a p.size) 47 wr)
        rw [hi] at HI
        have hall : segs p 1 = pre ++ p.extract a (a + o) :: segs p (a + o + 1) := by rw [HSg.out, hseg]
        obtain ⟨fn, tmps, assign, body, hy, hR⟩ := HY.out pre (p.extract a (a + o)) wr T.out.1 (by rw [hall]; simp) ⟨_, hall⟩
        have HAll := Lib.hid hall
        simp only [encT] at hy
        have HR := Lib.hid hR
        rw [← hx] at hy
        obtain ⟨s, hsn⟩ : ∃ s, p.extract a p.size = s := ⟨_, rfl⟩
        rw [hsn] at x0 HI hy hz hx2
        have hso : o + 1 ≤ s.size := by omega
        have hs2 : s.size ≤ 4294967296 := by omega
        have HX2 := Lib.hid (And.intro hx2 hz)
        have HSN := Lib.hid hsn
        clear hi he hseg hall hR hsn hz hx hx2
        gi_wp2_with fail
        refine ⟨trivial, (callsIn_wide.2 HI.out).mono ?_⟩
        rintro e w1 ⟨rfl, rfl⟩
        gi_wp2_with fail
        refine HR.out.mono ?_
        rintro e W3 (⟨rfl, hJ3, hk3⟩ | ⟨rfl, hJx3⟩)
        · have b0 := hk3.blk T.out.2.1 (fun h => h (.inl rfl))
          have b1 := hk3.blk T.out.2.2.1 (fun h => h (.inr (.inl rfl)))
          have b2 := hk3.blk T.out.2.2.2 (fun h => h (.inr (.inr rfl)))
          rw [HSN.out] at b0
          have x0' : W3.cell? ⟨b, 0, none⟩ = some (.string s) := (cell_of_row W3 b 0 _ _ _ b0).trans rfl
          have x1' : W3.cell? ⟨b + 1, 0, none⟩ = some (.string ⟨#[47]⟩) := (cell_of_row W3 (b + 1) 0 _ _ _ b1).trans rfl
          have z0 := frozen_of_row W3 b 0 _ _ b0
          have HB := Lib.hid (And.intro b0 (And.intro b1 b2))
          have HJ3 := Lib.hid hJ3
          clear hJ3 hk3 hy b0 b1 b2
          gi_wp2
          have c0 := heap_setCell_same W3 b 0 _ _ (.string (s.extract (o + 1) s.size)) HB.out.1
          have e0 : (#[Value.string s]).setIfInBounds 0 (.string (s.extract (o + 1) s.size)) = #[.string (s.extract (o + 1) s.size)] := rfl
          rw [e0] at c0
          have y0 : (W3.setCell ⟨b, 0, none⟩ (.string (s.extract (o + 1) s.size))).cell? ⟨b, 0, none⟩ = some (.string (s.extract (o + 1) s.size)) := (cell_of_row _ b 0 _ _ _ c0).trans rfl
          refine ⟨⟨a + o + 1, pre ++ [p.extract a (a + o)], by omega, Lib.hid (by rw [HAll.out]; simp), Lib.hid ⟨HJz.out _ W3 _ HJ3.out ((Only.refl (fun k => k = b) W3).setCell (p := ⟨b, 0, none⟩) (.inl rfl) _), by rw [← HX2.out.1]; exact c0, (blk_other _ _ _ (by show b + 1 ≠ b; omega)).trans HB.out.2.1, (blk_other _ _ _ (by show b + 2 ≠ b; omega)).trans HB.out.2.2⟩⟩, ?_⟩
          rw [strLen_of y0, HL.out, HSN.out, ByteArray.size_extract]
          omega
        · have HJ3 := Lib.hid hJx3
          clear hJx3 hy
          gi_wp2
          refine bodyPost_ret (results_none rfl _ _ _) rfl ?_
          exact ⟨⟨_, rfl⟩, .inr ⟨_, trivial, HJ3.out⟩⟩
end Go.Proofs.YtkhnjckkjdldbaaDoor.Q
