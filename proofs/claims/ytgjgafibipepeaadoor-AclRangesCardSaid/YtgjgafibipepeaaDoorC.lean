import Derived.Test.YtgjgafibipepeaaDoorB
namespace Go.Proofs.YtgjgafibipepeaaDoor.Q
open Go.RowKit Go.Proofs.YtgjgafibipepeaaDoorW.PrintWords Go.Deep Go.Maps Go.WideShapes Go.Lib
set_option linter.unusedVariables false
set_option linter.unusedSimpArgs false
attribute [local go_sem] Oper.semAt_some

/-! AN ADDRESS -/
def byteV (n : Nat) : Value := .int .u8 n
def quadV (q : Quad) : Value := .agg #[byteV q.1, byteV q.2.1, byteV q.2.2.1, byteV q.2.2.2]
def noQuad : Value := .agg #[.int .u8 0, .int .u8 0, .int .u8 0, .int .u8 0]
/-- the numbers of the first parts -/
def upTo : List (List UInt8) → Nat → Option (List Nat)
  | _, 0 => some []
  | l, k + 1 => (upTo l k).bind fun ns => (numB 255 (l.getD k [])).map fun n => ns ++ [n]
theorem upTo_length {l : List (List UInt8)} {k : Nat} {ns : List Nat} (h : upTo l k = some ns) : ns.length = k := by
  induction k generalizing ns with
  | zero => cases h; rfl
  | succ k ih =>
    obtain ⟨m, h1, h2⟩ := Option.bind_eq_some_iff.1 h
    obtain ⟨n, h3, h4⟩ := Option.map_eq_some_iff.1 h2
    rw [← h4]; simp [ih h1]
theorem addrP_upTo (l : List (List UInt8)) (h : l.length = 4) : addrP l = (upTo l 4).bind fun ns => match ns with
    | [a, b, c, d] => some (a, b, c, d)
    | _ => none := by
  match l, h with
  | [a, b, c, d], _ =>
    simp only [addrP, upTo, List.getD_cons_zero, List.getD_cons_succ]
    cases numB 255 a <;> simp
    cases numB 255 b <;> simp
    cases numB 255 c <;> simp
    cases numB 255 d <;> simp
theorem addrP_other (l : List (List UInt8)) (h : l.length ≠ 4) : addrP l = none := by
  unfold addrP
  split
  · simp at h
  · rfl
theorem upTo_none {l : List (List UInt8)} {k j : Nat} (h : upTo l k = none) (hk : k ≤ j) : upTo l j = none := by
  induction j with
  | zero => obtain rfl : k = 0 := by omega
            cases h
  | succ j ih =>
    by_cases e : k = j + 1
    · subst e; exact h
    · simp [upTo, ih (by omega)]
theorem upTo_small {l : List (List UInt8)} {k : Nat} {ns : List Nat} (h : upTo l k = some ns) : ∀ n ∈ ns, n ≤ 255 := by
  induction k generalizing ns with
  | zero => cases h; simp
  | succ k ih =>
    obtain ⟨m, h1, h2⟩ := Option.bind_eq_some_iff.1 h
    obtain ⟨n, h3, h4⟩ := Option.map_eq_some_iff.1 h2
    rw [← h4]
    intro x hx
    rcases List.mem_append.1 hx with hx | hx
    · exact ih h1 x hx
    · rw [List.mem_singleton.1 hx]; exact (numB_some.1 h3).2
def bytesV (ns : List Nat) : List Value := ns.map byteV
theorem infoB : (Tryd.prog.info? 5).map (fun i => (i.zero, i.size, i.bytes)) = some (some (.int .u8 0), 1, 1) := by kernel_rfl
/-- what Split gives -/
theorem split_calls (s : ByteArray) (w : World) (hs : s.size ≤ 536870912) (hE : Env w) :
    Calls Tryd.prog 57 #[.string s, .string ⟨#[46]⟩] w fun e w' => ∃ (g : Nat) (ps : List ByteArray), e = .returned (.slice (some ⟨g, 0, none⟩) ps.length ps.length) ∧ ps.map (·.data.toList) = splitC 46 s.data.toList ∧ w'.heap[g]? = some (.cells (ps.map Value.string).toArray 9 (0, 0)) ∧ Below w.heap.size w w' := by
  obtain ⟨m, hm⟩ := hE.most
  refine (Tryd.strings_Split s ⟨#[46]⟩ m w (by omega) hm (by decide)).mono ?_
  rintro e w' ⟨rfl, rfl⟩
  have hlen : (splitB ⟨#[46]⟩ 0 (countB s ⟨#[46]⟩) s).length = countB s ⟨#[46]⟩ + 1 := splitB_all ⟨#[46]⟩ (by decide) 0 _ s rfl
  refine ⟨w.heap.size, splitB ⟨#[46]⟩ 0 (countB s ⟨#[46]⟩) s, by rw [hlen], parts_one s 46, World.alloc_heap_new _ _, below_alloc (Below.refl _ w) _⟩
theorem part_size {s : ByteArray} {ps : List ByteArray} (h : ps.map (·.data.toList) = splitC 46 s.data.toList) : ∀ p ∈ ps, p.size ≤ s.size := by
  have key : ∀ (l : List UInt8) (x : List UInt8), x ∈ splitC 46 l → x.length ≤ l.length := by
    intro l
    induction l with
    | nil => intro x hx; simp [splitC] at hx; subst hx; simp
    | cons b l ih =>
      intro x hx
      unfold splitC at hx
      split at hx
      · rcases List.mem_cons.1 hx with rfl | hx
        · simp
        · have := ih x hx; simp; omega
      · split at hx
        · rename_i h' t' hs
          rcases List.mem_cons.1 hx with rfl | hx
          · have := ih h' (by rw [hs]; simp); simp; omega
          · have := ih x (by rw [hs]; simp [hx]); simp; omega
        · simp at hx; subst hx; simp
  intro p hp
  have h1 : p.data.toList ∈ splitC 46 s.data.toList := by rw [← h]; exact List.mem_map_of_mem hp
  have := key _ _ h1
  exact this
end Go.Proofs.YtgjgafibipepeaaDoor.Q
