import Derived.Test.YtkhnjckkjdldbaaGreatDoorBag
import Derived.Test.YtkhnjckkjdldbaaGreatDoorKa
namespace Go.Proofs.YtkhnjckkjdldbaaGreatDoor.Bag
open Go.RowKit Go.Proofs.YtkhnjckkjdldbaaGreatDoorW.PrintWords Go.Deep
open Go.Proofs.YtkhnjckkjdldbaaGreatDoor.Q (Only cell_rowK)
set_option linter.unusedVariables false
set_option linter.unusedSimpArgs false
/-! WHICH BLOCKS A LIST OF LISTS OWNS -/
section
variable {α : Type} {enc : α → List Value} {size base : Nat} {e : TypeId}
def OwnOf (L : Lists α) (b : Nat) : Prop := ∃ j, ∃ hj : j < L.length, L[j].1.ownBlock = some b
theorem own_is {W : World} {L : Lists α} (h : BagI enc size base e W (L.map fun x => start x.1 x.2)) {b : Nat} (hb : OwnOf L b) : base ≤ b ∧ b < W.heap.size ∧ ∃ cs, W.heap[b]? = some (.cells cs e (0, 0)) := by
  obtain ⟨j, hj, h1⟩ := hb
  have hG := (h.ok j (by simpa using hj)).rv
  simp only [List.getElem_map] at hG
  have hG' : Row enc size base e W L[j].1 L[j].2 := hG
  refine ⟨(hG'.lt h1).1, (hG'.lt h1).2, ?_⟩
  rcases hG'.shape with ⟨h2, _⟩ | ⟨g, cap, h2, _, _, cs, hc⟩
  · rw [h2] at h1; cases h1
  · rw [h2] at h1
    cases h1
    exact ⟨cs, hc⟩
theorem not_own {W : World} {L : Lists α} (h : BagI enc size base e W (L.map fun x => start x.1 x.2)) {p : Nat} {cs : Array Value} {t : TypeId} {fr : Nat × Nat} (hp : W.heap[p]? = some (.cells cs t fr)) (hne : t ≠ e) : ¬ OwnOf L p := fun hb => by
  obtain ⟨_, _, cs', hc⟩ := own_is h hb
  rw [hp] at hc
  cases hc
  exact hne rfl
/-- what is grown lies in its own block, or in a new one -/
def Far (W : World) (its : List (Item α)) : Prop := ∀ j (hj : j < its.length) k, its[j].m.ownBlock = some k → its[j].v.ownBlock = some k ∨ W.heap.size ≤ k
theorem Far.start {W : World} {L : Lists α} : Far W (L.map fun x => Bag.start x.1 x.2) := fun j hj k hk => by
  simp only [List.getElem_map, Bag.start] at hk ⊢
  exact .inl hk
theorem Far.set {W W9 w3 : World} {its : List (Item α)} (h : Far W its) {i : Nat} (hi : i < its.length) {it : Item α} (hit : its[i] = it) {n g cap : Nat} {ys : List α} (hA : AppTo W9 w3 it.m n g cap) (hs : W.heap.size ≤ W9.heap.size) {n2 : Nat} : Far W (its.set i ⟨it.v, it.xs, .slice (some ⟨g, 0, none⟩) n2 cap, ys⟩) := fun j hj k hk => by
  rw [List.getElem_set] at hk ⊢
  split at hk
  · rename_i e
    subst e
    rw [if_pos rfl]
    have hg : k = g := by simpa [Value.ownBlock] using hk.symm
    subst hg
    rcases hA with ⟨h1, _⟩ | ⟨h1, _⟩
    · have := h i hi k (by rw [hit, h1]; rfl)
      rw [hit] at this
      exact this
    · exact .inr (Nat.le_trans hs h1)
  · rename_i e
    rw [if_neg e]
    exact h j (by simpa using hj) k hk
theorem only_app {S : Nat → Prop} {W w1 w2 : World} {u : Value} {n g cap : Nat} (ho : Only S W w1) (hA : AppTo w1 w2 u n g cap) (hne : ∀ k, u.ownBlock = some k → S k ∨ W.heap.size ≤ k) : Only S W w2 := by
  obtain ⟨row, hg, hr⟩ : ∃ row, w1.grownBy w2 row ∧ ∀ k, row = some k → S k ∨ W.heap.size ≤ k := by
    rcases hA with ⟨h1, h2⟩ | ⟨_, h2⟩
    · exact ⟨_, h2, fun k e => hne k (by rw [h1]; simpa [Value.ownBlock] using e)⟩
    · exact ⟨none, h2, fun k e => (by cases e)⟩
  exact ⟨hg.os.trans ho.os, hg.tape.trans ho.tape, hg.output.trans ho.output, Nat.le_trans ho.size hg.size, fun k hk hn => (hg.block k (Nat.lt_of_lt_of_le hk ho.size) (fun e => by
    rcases hr k e.symm with h | h
    · exact hn h
    · omega)).trans (ho.block k hk hn)⟩
theorem only_grown {S : Nat → Prop} {W w1 w2 : World} {g : Nat} (ho : Only S W w1) (hg : w1.grownBy w2 (some g)) (hS : S g) : Only S W w2 :=
  ⟨hg.os.trans ho.os, hg.tape.trans ho.tape, hg.output.trans ho.output, Nat.le_trans ho.size hg.size, fun k hk hn => (hg.block k (Nat.lt_of_lt_of_le hk ho.size) (fun e => by cases e; exact hn hS)).trans (ho.block k hk hn)⟩
theorem below_grownO {n : Nat} {w0 A B : World} {r : Option Nat} (h : Below n w0 A) (hn : n ≤ w0.heap.size) (hg : A.grownBy B r) (hr : ∀ k, r = some k → n ≤ k) : Below n w0 B :=
  ⟨hg.os.trans h.os, hg.tape.trans h.tape, hg.output.trans h.output, Nat.le_trans h.size hg.size, fun k hk => (hg.block k (Nat.lt_of_lt_of_le hk (Nat.le_trans hn h.size)) (fun e => by have := hr k e.symm; omega)).trans (h.block k hk)⟩
theorem blk_lt' {W : World} {k : Nat} {o : Obj} (h : W.heap[k]? = some o) : k < W.heap.size := (Array.getElem?_eq_some_iff.1 h).1
end
/-! LISTS BEING GROWN, BEING MARKED -/
theorem under_backG {α : Type} {mk2 : Int → α} {L : Lists α} {by_ n k : Nat} {its : List (Item α)} (h : Under mk2 by_ L n k its) : (its.map fun it => start it.v it.xs) = L.map fun x => start x.1 x.2 := by
  apply List.ext_getElem
  · simp [h.len]
  · intro j h1 h2
    simp only [List.getElem_map]
    rw [h.v j (by simpa using h2), h.xs j (by simpa using h2)]
section
variable {α : Type} {mk1 : Int → α}
/-- the lists that are being marked: so many are done, of the next one so many elements -/
structure MarkingG (mk1 : Int → α) (L0 : Lists α) (i k : Nat) (L : Lists α) : Prop where
  len : L.length = L0.length
  v : ∀ j (hj : j < L0.length), (L[j]'(by rw [len]; exact hj)).1 = L0[j].1
  n : ∀ j (hj : j < L0.length), (L[j]'(by rw [len]; exact hj)).2.length = L0[j].2.length
  done : ∀ j (hj : j < L0.length), j < i → (L[j]'(by rw [len]; exact hj)).2 = List.replicate L0[j].2.length (mk1 j)
  now : ∀ (hj : i < L0.length), ∀ m (hm : m < (L[i]'(by rw [len]; exact hj)).2.length), m < k → ((L[i]'(by rw [len]; exact hj)).2)[m] = mk1 i
theorem MarkingG.start {L0 : Lists α} : MarkingG mk1 L0 0 0 L0 :=
  ⟨rfl, fun _ _ => rfl, fun _ _ => rfl, fun j _ h => absurd h (Nat.not_lt_zero _), fun _ m _ h => absurd h (Nat.not_lt_zero _)⟩
theorem MarkingG.own {L0 L : Lists α} {i k : Nat} (h : MarkingG mk1 L0 i k L) {b : Nat} : OwnOf L b ↔ OwnOf L0 b :=
  ⟨fun ⟨j, hj, e⟩ => ⟨j, by rw [← h.len]; exact hj, by rw [← h.v j (by rw [← h.len]; exact hj)]; exact e⟩, fun ⟨j, hj, e⟩ => ⟨j, by rw [h.len]; exact hj, by rw [h.v j hj]; exact e⟩⟩
theorem MarkingG.next {L0 L : Lists α} {i k : Nat} (h : MarkingG mk1 L0 i k L) (hk : ∀ (hj : i < L0.length), L0[i].2.length ≤ k) : MarkingG mk1 L0 (i + 1) 0 L := by
  refine ⟨h.len, h.v, h.n, fun j hj hji => ?_, fun hj m hm h0 => absurd h0 (Nat.not_lt_zero _)⟩
  by_cases e : j = i
  · subst e
    have h1 := h.n j hj
    rw [List.eq_replicate_iff]
    refine ⟨h1, fun b hb => ?_⟩
    obtain ⟨m, hm, rfl⟩ := List.mem_iff_getElem.1 hb
    exact h.now hj m hm (by have := hk hj; omega)
  · exact h.done j hj (by omega)
theorem MarkingG.put {L0 L : Lists α} {i k : Nat} (h : MarkingG mk1 L0 i k L) {v : Value} {xs : List α} (hi : L[i]? = some (v, xs)) : MarkingG mk1 L0 i (k + 1) (L.set i (v, xs.set k (mk1 i))) := by
  have hiL : i < L.length := (List.getElem?_eq_some_iff.1 hi).1
  have hLi : L[i] = (v, xs) := by rw [List.getElem?_eq_getElem hiL] at hi; exact Option.some.inj hi
  refine ⟨by simp [h.len], fun j hj => ?_, fun j hj => ?_, fun j hj hji => ?_, fun hj m hm hmk => ?_⟩
  · rw [List.getElem_set]; split
    · rename_i e; subst e; have := h.v i hj; rw [hLi] at this; exact this
    · exact h.v j hj
  · rw [List.getElem_set]; split
    · rename_i e; subst e; have := h.n i hj; rw [hLi] at this; simpa using this
    · exact h.n j hj
  · rw [List.getElem_set_ne (by omega)]; exact h.done j hj hji
  · simp only [List.getElem_set_self] at hm ⊢
    rw [List.getElem_set]
    split
    · rfl
    · rename_i hne
      have h2 := h.now hj m (by rw [hLi]; simpa using hm) (by omega)
      rw [List.getElem_of_eq (congrArg Prod.snd hLi)] at h2
      exact h2
theorem map_set_startG {L : Lists α} {i : Nat} {v : Value} {xs : List α} : ((L.set i (v, xs)).map fun x => start x.1 x.2) = (L.map fun x => start x.1 x.2).set i (start v xs) := by
  rw [List.map_set]
end
/-- what is read of a bag whose lists are grown -/
structure ReadsG (wr : World) (sz : Nat) (p : Nat) (u5 : Value) (n by_ y : Nat) (Av : Option Addr) (nv cv : Nat) (Am : Option Addr) (cm : Nat) (q cq : Nat) : Prop where
  outer : wr.cell? ⟨p, y, none⟩ = some (.slice Av nv cv)
  more : u5 = .slice (some ⟨q, 0, none⟩) n cq
  moreAt : wr.cell? ⟨q, y, none⟩ = some (.slice Am (nv + by_) cm)
  nq : n ≤ cq
  nvc : nv ≤ cv
  nmc : nv + by_ ≤ cm
  small : nv ≤ 4294967296
  old : ∀ k, k < nv → ∃ g, Av = some ⟨g, 0, none⟩ ∧ wr.cell? ⟨g, k * sz, none⟩ = some (.int .i64 (-1000000 - y))
  new1 : ∀ k, k < nv → ∃ g, Am = some ⟨g, 0, none⟩ ∧ wr.cell? ⟨g, k * sz, none⟩ = some (.int .i64 (-1000000 - y))
  new2 : ∀ k, nv ≤ k → k < nv + by_ → ∃ g, Am = some ⟨g, 0, none⟩ ∧ wr.cell? ⟨g, k * sz, none⟩ = some (.int .i64 (-2000000 - y))
theorem readsG {α : Type} {enc : α → List Value} {size : Nat} {eW eL : TypeId} {mk1 mk2 : Int → α} (henc : ∀ x, (enc x).length = size) (hs0 : 0 < size) (hm1 : ∀ j, (enc (mk1 j))[0]? = some (.int .i64 (-1000000 - j))) (hm2 : ∀ j, (enc (mk2 j))[0]? = some (.int .i64 (-2000000 - j)))
    {w0 wr W : World} {p n by_ : Nat} {L : Lists α} {cs : Array Value} {u5 : Value} {its : List (Item α)} (hn : L.length = n) (hblk : wr.heap[p]? = some (.cells cs eL (0, 0))) (hcs : ∀ j (hj : j < L.length), cs[j]? = some L[j].1)
    (hmk : ∀ j (hj : j < L.length), L[j].2 = List.replicate L[j].2.length (mk1 j)) (hsm : ∀ j (hj : j < L.length), L[j].2.length ≤ 4294967296) (hU : Under mk2 by_ L n 0 its) (hBG : BagI enc size w0.heap.size eW wr its)
    (hrow : wr.ownsRow W.heap.size eL 1 u5 n ((its.take n).map Item.m)) {y : Nat} (hy : y < L.length) : ∃ Av nv cv Am cm q cq, ReadsG wr size p u5 n by_ y Av nv cv Am cm q cq := by
  have hyi : y < its.length := by rw [hU.len]; exact hy
  have hG := hBG.ok y hyi
  have ev := hU.v y hy
  have ex := hU.xs y hy
  have ey := hU.done y hy (by omega)
  have hrv := hG.rv
  have hrm := hG.rm
  rw [ev, ex] at hrv
  rw [ex, ey] at hrm
  obtain ⟨Av, cv, h1, h2⟩ := hrv.slice
  obtain ⟨Am, cm, h3, h4⟩ := hrm.slice
  obtain ⟨q, cq, h5, _, _⟩ := hrow.form (by omega)
  obtain ⟨_, _, _, h6, _, _, hnq, _⟩ : ∃ g cap cur, u5 = .slice (some ⟨g, 0, none⟩) n cap ∧ W.heap.size ≤ g ∧ wr.heap[g]? = some (.cells cur eL (0, 0)) ∧ n ≤ cap ∧ True := by
    rcases hrow.2 with ⟨e1, e2⟩ | ⟨g, cap, cur, e1, e2, e3, e4, _⟩
    · omega
    · exact ⟨g, cap, cur, e1, e2, e3, e4, trivial⟩
  have hlen : (L[y].2 ++ List.replicate by_ (mk2 y)).length = L[y].2.length + by_ := by simp
  have at0 : ∀ {v : Value} {xs : List α} {cap g : Nat}, Row enc size w0.heap.size eW wr (.slice (some ⟨g, 0, none⟩) xs.length cap) xs → ∀ {k : Nat} (hk : k < xs.length) {u : Value}, (enc xs[k])[0]? = some u → wr.cell? ⟨g, k * size, none⟩ = some u := fun {v xs cap g} hr {k} hk {u} hu =>
    Row.cell (enc := enc) (size := size) henc hr hk (j := 0) hu
  refine ⟨Av, L[y].2.length, cv, Am, cm, q, cq, ?_, h5, ?_, ?_, h2, by rw [hlen] at h4; exact h4, hsm y hy, fun k hk => ?_, fun k hk => ?_, fun k hk1 hk2 => ?_⟩
  · rw [← h1]; exact cell_rowK hblk (hcs y hy)
  · rw [h5] at hrow
    have := World.ownsRow.cellAt hrow y (by omega)
    rw [this, List.getElem?_map, List.getElem?_take_of_lt (by omega), List.getElem?_eq_getElem hyi, Option.map_some, h3, hlen]
  · rw [h5] at h6
    simp only [Value.slice.injEq, Option.some.injEq, Addr.mk.injEq, and_true, true_and] at h6
    omega
  · rcases hrv.shape with ⟨_, e2⟩ | ⟨g, cap, e1, _⟩
    · rw [e2] at hk; simp at hk
    · rw [h1] at e1
      simp only [Value.slice.injEq] at e1
      obtain ⟨rfl, _, rfl⟩ := e1
      rw [h1] at hrv
      refine ⟨g, rfl, at0 (v := .nilIface) hrv hk ?_⟩
      have : L[y].2[k] = mk1 y := by
        have := hmk y hy
        rw [List.getElem_of_eq this]; simp
      rw [this]; exact hm1 _
  · rcases hrm.shape with ⟨_, e2⟩ | ⟨g, cap, e1, _⟩
    · rw [List.append_eq_nil_iff] at e2; rw [e2.1] at hk; simp at hk
    · rw [h3] at e1
      simp only [Value.slice.injEq] at e1
      obtain ⟨rfl, _, rfl⟩ := e1
      rw [h3] at hrm
      refine ⟨g, rfl, at0 (v := .nilIface) hrm (k := k) (by rw [hlen]; omega) ?_⟩
      have : L[y].2[k] = mk1 y := by
        have := hmk y hy
        rw [List.getElem_of_eq this]; simp
      rw [List.getElem_append_left hk, this]; exact hm1 _
  · rcases hrm.shape with ⟨_, e2⟩ | ⟨g, cap, e1, _⟩
    · have := congrArg List.length e2
      rw [hlen] at this; simp at this; omega
    · rw [h3] at e1
      simp only [Value.slice.injEq] at e1
      obtain ⟨rfl, _, rfl⟩ := e1
      rw [h3] at hrm
      refine ⟨g, rfl, at0 (v := .nilIface) hrm (k := k) (by rw [hlen]; omega) ?_⟩
      rw [List.getElem_append_right hk1]; simp [hm2]
end Go.Proofs.YtkhnjckkjdldbaaGreatDoor.Bag
