import Derived.Test.YtfkbknkmanphfaaRg
namespace Go.Proofs.Ytfkbknkmanphfaa.Q
open Go.RowKit Go.Proofs.YtfkbknkmanphfaaW.PrintWords Go.Sort
set_option linter.unusedVariables false
set_option linter.unusedSimpArgs false

/-- the law's three Acks beside the reference's three -/
structure St (w0 W : World) (M N q o a b c r t ra h1 u1 rb h2 u2 rc h3 u3 : Nat) (ws gs vs es : List Int) (fa fb fc ga gb gc : Nat → Ak) : Prop where
  bel : Below w0.heap.size w0 W
  sq : SysN N W q ws gs
  so : SysN N W o vs es
  ka : W.heap[a]? = some (.cells (ackArr q fa) 71 (0, 0))
  kb : W.heap[b]? = some (.cells (ackArr q fb) 71 (0, 0))
  kc : W.heap[c]? = some (.cells (ackArr o fc) 71 (0, 0))
  r1 : RAcks M W ra r h1 u1 ws gs ga
  r2 : RAcks M W rb r h2 u2 ws gs gb
  r3 : RAcks M W rc t h3 u3 vs es gc
  fin : Fin ws ga ∧ Fin ws gb ∧ Fin vs gc
  ord : w0.heap.size ≤ N ∧ N ≤ a ∧ a < b ∧ b < c ∧ c < M ∧ M ≤ r ∧ M ≤ t ∧ r < ra ∧ r < h1 ∧ r < u1 ∧ t < ra ∧ t < h1 ∧ t < u1
  ord2 : ra < rb ∧ ra < h2 ∧ ra < u2 ∧ h1 < rb ∧ h1 < h2 ∧ h1 < u2 ∧ u1 < rb ∧ u1 < h2 ∧ u1 < u2
  ord3 : rb < rc ∧ rb < h3 ∧ rb < u3 ∧ h2 < rc ∧ h2 < h3 ∧ h2 < u3 ∧ u2 < rc ∧ u2 < h3 ∧ u2 < u3
  lst : rc < W.heap.size ∧ h3 < W.heap.size ∧ u3 < W.heap.size
variable {w0 W W' : World} {M N q o a b c r t ra h1 u1 rb h2 u2 rc h3 u3 : Nat} {ws gs vs es : List Int} {fa fb fc ga gb gc : Nat → Ak}
theorem SysN.only {N : Nat} {w w' : World} {b : Nat} {ws gs : List Int} {S : Nat → Prop} (h : SysN N w b ws gs) (ho : Only S w w') (hn : N ≤ w.heap.size) (hs : ∀ k, k < N → ¬ S k) : SysN N w' b ws gs :=
  h.keep (fun k hk => ho.block k (by omega) (hs k hk))
theorem Only.blk {S : Nat → Prop} {w w' : World} (ho : Only S w w') {k : Nat} {ob : Obj} (h : w.heap[k]? = some ob) (hn : ¬ S k) : w'.heap[k]? = some ob :=
  (ho.block k (Array.getElem?_eq_some_iff.1 h).1 hn).trans h
theorem St.below (h : St w0 W M N q o a b c r t ra h1 u1 rb h2 u2 rc h3 u3 ws gs vs es fa fb fc ga gb gc) (hB : Below W.heap.size W W') : St w0 W' M N q o a b c r t ra h1 u1 rb h2 u2 rc h3 u3 ws gs vs es fa fb fc ga gb gc := by
  obtain ⟨bel, sq, so, ka, kb, kc, r1, r2, r3, fin, ord, ord2, ord3, lst⟩ := h
  have ho : Only (fun _ => False) W W' := Only.of_below hB
  refine ⟨below_then bel bel.size hB, sq.only ho (by omega) (by simp), so.only ho (by omega) (by simp), ho.blk ka (by simp), ho.blk kb (by simp), ho.blk kc (by simp), r1.below hB, r2.below hB, r3.below hB, fin, ord, ord2, ord3, ?_⟩
  have := hB.size
  omega
theorem Only.belT {w0 W W' : World} {S : Nat → Prop} (bel : Below w0.heap.size w0 W) (ho : Only S W W') (hs : ∀ k, k < w0.heap.size → ¬ S k) : Below w0.heap.size w0 W' :=
  ((Only.of_below (S := S) bel).trans ho (fun _ _ e => e)).below hs
theorem St.set_a {f' : Nat → Ak} (h : St w0 W M N q o a b c r t ra h1 u1 rb h2 u2 rc h3 u3 ws gs vs es fa fb fc ga gb gc) (ho : Only (fun k => k = a) W W') (hk : W'.heap[a]? = some (.cells (ackArr q f') 71 (0, 0))) : St w0 W' M N q o a b c r t ra h1 u1 rb h2 u2 rc h3 u3 ws gs vs es f' fb fc ga gb gc := by
  obtain ⟨bel, sq, so, ka, kb, kc, r1, r2, r3, fin, ord, ord2, ord3, lst⟩ := h
  have hz := ho.size
  exact ⟨Only.belT bel ho (by omega), sq.only ho (by omega) (by omega), so.only ho (by omega) (by omega), hk, ho.blk kb (by omega), ho.blk kc (by omega), r1.only ho (by omega) (by omega) (by omega) (by omega), r2.only ho (by omega) (by omega) (by omega) (by omega), r3.only ho (by omega) (by omega) (by omega) (by omega), fin, ord, ord2, ord3, by omega⟩
theorem St.acks_a (h : St w0 W M N q o a b c r t ra h1 u1 rb h2 u2 rc h3 u3 ws gs vs es fa fb fc ga gb gc) : Acks W a q ws gs fa := ⟨h.sq.mono (by have := h.ord; omega), h.ka⟩
theorem St.put_a (h : St w0 W M N q o a b c r t ra h1 u1 rb h2 u2 rc h3 u3 ws gs vs es fa fb fc ga gb gc) (p : Pt) (hp : -128 ≤ p.s ∧ p.s ≤ 127) :
    Calls Try.prog 14 #[.pointer (some ⟨a, 0, none⟩), .int .i8 p.s, .agg #[.int .u32 p.e, .int .u32 p.n]] W fun e W' => (∃ x, e = .returned (.int .i64 x)) ∧ St w0 W' M N q o a b c r t ra h1 u1 rb h2 u2 rc h3 u3 ws gs vs es (putX ws fa p) fb fc ga gb gc :=
  (put_any a q ws gs fa W h.acks_a p hp).mono (fun e W' ⟨h1, h2, h3⟩ => ⟨⟨_, h1⟩, h.set_a h2 h3.blk⟩)
theorem St.com_a (h : St w0 W M N q o a b c r t ra h1 u1 rb h2 u2 rc h3 u3 ws gs vs es fa fb fc ga gb gc) :
    Calls Try.prog 16 #[.pointer (some ⟨a, 0, none⟩)] W fun e W' => e = .returned (.tuple #[.agg #[.int .u32 (bestTo ws gs fa 7).e, .int .u32 (bestTo ws gs fa 7).n], .bool (bestTo ws gs fa 7).s]) ∧ Below W.heap.size W W' :=
  committed_acks a q ws gs fa W h.acks_a
theorem St.set_b {f' : Nat → Ak} (h : St w0 W M N q o a b c r t ra h1 u1 rb h2 u2 rc h3 u3 ws gs vs es fa fb fc ga gb gc) (ho : Only (fun k => k = b) W W') (hk : W'.heap[b]? = some (.cells (ackArr q f') 71 (0, 0))) : St w0 W' M N q o a b c r t ra h1 u1 rb h2 u2 rc h3 u3 ws gs vs es fa f' fc ga gb gc := by
  obtain ⟨bel, sq, so, ka, kb, kc, r1, r2, r3, fin, ord, ord2, ord3, lst⟩ := h
  have hz := ho.size
  exact ⟨Only.belT bel ho (by omega), sq.only ho (by omega) (by omega), so.only ho (by omega) (by omega), ho.blk ka (by omega), hk, ho.blk kc (by omega), r1.only ho (by omega) (by omega) (by omega) (by omega), r2.only ho (by omega) (by omega) (by omega) (by omega), r3.only ho (by omega) (by omega) (by omega) (by omega), fin, ord, ord2, ord3, by omega⟩
theorem St.acks_b (h : St w0 W M N q o a b c r t ra h1 u1 rb h2 u2 rc h3 u3 ws gs vs es fa fb fc ga gb gc) : Acks W b q ws gs fb := ⟨h.sq.mono (by have := h.ord; omega), h.kb⟩
theorem St.put_b (h : St w0 W M N q o a b c r t ra h1 u1 rb h2 u2 rc h3 u3 ws gs vs es fa fb fc ga gb gc) (p : Pt) (hp : -128 ≤ p.s ∧ p.s ≤ 127) :
    Calls Try.prog 14 #[.pointer (some ⟨b, 0, none⟩), .int .i8 p.s, .agg #[.int .u32 p.e, .int .u32 p.n]] W fun e W' => (∃ x, e = .returned (.int .i64 x)) ∧ St w0 W' M N q o a b c r t ra h1 u1 rb h2 u2 rc h3 u3 ws gs vs es fa (putX ws fb p) fc ga gb gc :=
  (put_any b q ws gs fb W h.acks_b p hp).mono (fun e W' ⟨h1, h2, h3⟩ => ⟨⟨_, h1⟩, h.set_b h2 h3.blk⟩)
theorem St.com_b (h : St w0 W M N q o a b c r t ra h1 u1 rb h2 u2 rc h3 u3 ws gs vs es fa fb fc ga gb gc) :
    Calls Try.prog 16 #[.pointer (some ⟨b, 0, none⟩)] W fun e W' => e = .returned (.tuple #[.agg #[.int .u32 (bestTo ws gs fb 7).e, .int .u32 (bestTo ws gs fb 7).n], .bool (bestTo ws gs fb 7).s]) ∧ Below W.heap.size W W' :=
  committed_acks b q ws gs fb W h.acks_b
theorem St.set_c {f' : Nat → Ak} (h : St w0 W M N q o a b c r t ra h1 u1 rb h2 u2 rc h3 u3 ws gs vs es fa fb fc ga gb gc) (ho : Only (fun k => k = c) W W') (hk : W'.heap[c]? = some (.cells (ackArr o f') 71 (0, 0))) : St w0 W' M N q o a b c r t ra h1 u1 rb h2 u2 rc h3 u3 ws gs vs es fa fb f' ga gb gc := by
  obtain ⟨bel, sq, so, ka, kb, kc, r1, r2, r3, fin, ord, ord2, ord3, lst⟩ := h
  have hz := ho.size
  exact ⟨Only.belT bel ho (by omega), sq.only ho (by omega) (by omega), so.only ho (by omega) (by omega), ho.blk ka (by omega), ho.blk kb (by omega), hk, r1.only ho (by omega) (by omega) (by omega) (by omega), r2.only ho (by omega) (by omega) (by omega) (by omega), r3.only ho (by omega) (by omega) (by omega) (by omega), fin, ord, ord2, ord3, by omega⟩
theorem St.acks_c (h : St w0 W M N q o a b c r t ra h1 u1 rb h2 u2 rc h3 u3 ws gs vs es fa fb fc ga gb gc) : Acks W c o vs es fc := ⟨h.so.mono (by have := h.ord; omega), h.kc⟩
theorem St.put_c (h : St w0 W M N q o a b c r t ra h1 u1 rb h2 u2 rc h3 u3 ws gs vs es fa fb fc ga gb gc) (p : Pt) (hp : -128 ≤ p.s ∧ p.s ≤ 127) :
    Calls Try.prog 14 #[.pointer (some ⟨c, 0, none⟩), .int .i8 p.s, .agg #[.int .u32 p.e, .int .u32 p.n]] W fun e W' => (∃ x, e = .returned (.int .i64 x)) ∧ St w0 W' M N q o a b c r t ra h1 u1 rb h2 u2 rc h3 u3 ws gs vs es fa fb (putX vs fc p) ga gb gc :=
  (put_any c o vs es fc W h.acks_c p hp).mono (fun e W' ⟨h1, h2, h3⟩ => ⟨⟨_, h1⟩, h.set_c h2 h3.blk⟩)
theorem St.com_c (h : St w0 W M N q o a b c r t ra h1 u1 rb h2 u2 rc h3 u3 ws gs vs es fa fb fc ga gb gc) :
    Calls Try.prog 16 #[.pointer (some ⟨c, 0, none⟩)] W fun e W' => e = .returned (.tuple #[.agg #[.int .u32 (bestTo vs es fc 7).e, .int .u32 (bestTo vs es fc 7).n], .bool (bestTo vs es fc 7).s]) ∧ Below W.heap.size W W' :=
  committed_acks c o vs es fc W h.acks_c
theorem St.set_ra {f' : Nat → Ak} (h : St w0 W M N q o a b c r t ra h1 u1 rb h2 u2 rc h3 u3 ws gs vs es fa fb fc ga gb gc) (ho : Only (fun k => k = h1 ∨ k = u1) W W') (hk : RAcks M W' ra r h1 u1 ws gs f') (hf : Fin ws f') : St w0 W' M N q o a b c r t ra h1 u1 rb h2 u2 rc h3 u3 ws gs vs es fa fb fc f' gb gc := by
  obtain ⟨bel, sq, so, ka, kb, kc, r1, r2, r3, ⟨fin1, fin2, fin3⟩, ord, ord2, ord3, lst⟩ := h
  have hz := ho.size
  exact ⟨Only.belT bel ho (by omega), sq.only ho (by omega) (by omega), so.only ho (by omega) (by omega), ho.blk ka (by omega), ho.blk kb (by omega), ho.blk kc (by omega), hk, r2.only ho (by omega) (by omega) (by omega) (by omega), r3.only ho (by omega) (by omega) (by omega) (by omega), ⟨hf, fin2, fin3⟩, ord, ord2, ord3, by omega⟩
theorem St.put_ra (h : St w0 W M N q o a b c r t ra h1 u1 rb h2 u2 rc h3 u3 ws gs vs es fa fb fc ga gb gc) (p : Pt) (hp : -128 ≤ p.s ∧ p.s ≤ 127) :
    Calls Try.prog 15 #[.pointer (some ⟨ra, 0, none⟩), .int .i8 p.s, .agg #[.int .u32 p.e, .int .u32 p.n]] W fun e W' => (∃ x, e = .returned (.int .i64 x)) ∧ St w0 W' M N q o a b c r t ra h1 u1 rb h2 u2 rc h3 u3 ws gs vs es fa fb fc (putX ws ga p) gb gc :=
  (putR_any ra r h1 u1 ws gs ga W h.r1 p hp).mono (fun e W' ⟨h1, h2, h3⟩ => ⟨h1, h.set_ra h2 h3 (h.fin.1.put p)⟩)
theorem St.com_ra (h : St w0 W M N q o a b c r t ra h1 u1 rb h2 u2 rc h3 u3 ws gs vs es fa fb fc ga gb gc) :
    Calls Try.prog 17 #[.pointer (some ⟨ra, 0, none⟩)] W fun e W' => e = .returned (.tuple #[.agg #[.int .u32 (bestTo ws gs ga 7).e, .int .u32 (bestTo ws gs ga 7).n], .bool (bestTo ws gs ga 7).s]) ∧ Below W.heap.size W W' :=
  committedR ra r h1 u1 ws gs ga W h.r1 h.fin.1
theorem St.set_rb {f' : Nat → Ak} (h : St w0 W M N q o a b c r t ra h1 u1 rb h2 u2 rc h3 u3 ws gs vs es fa fb fc ga gb gc) (ho : Only (fun k => k = h2 ∨ k = u2) W W') (hk : RAcks M W' rb r h2 u2 ws gs f') (hf : Fin ws f') : St w0 W' M N q o a b c r t ra h1 u1 rb h2 u2 rc h3 u3 ws gs vs es fa fb fc ga f' gc := by
  obtain ⟨bel, sq, so, ka, kb, kc, r1, r2, r3, ⟨fin1, fin2, fin3⟩, ord, ord2, ord3, lst⟩ := h
  have hz := ho.size
  exact ⟨Only.belT bel ho (by omega), sq.only ho (by omega) (by omega), so.only ho (by omega) (by omega), ho.blk ka (by omega), ho.blk kb (by omega), ho.blk kc (by omega), r1.only ho (by omega) (by omega) (by omega) (by omega), hk, r3.only ho (by omega) (by omega) (by omega) (by omega), ⟨fin1, hf, fin3⟩, ord, ord2, ord3, by omega⟩
theorem St.put_rb (h : St w0 W M N q o a b c r t ra h1 u1 rb h2 u2 rc h3 u3 ws gs vs es fa fb fc ga gb gc) (p : Pt) (hp : -128 ≤ p.s ∧ p.s ≤ 127) :
    Calls Try.prog 15 #[.pointer (some ⟨rb, 0, none⟩), .int .i8 p.s, .agg #[.int .u32 p.e, .int .u32 p.n]] W fun e W' => (∃ x, e = .returned (.int .i64 x)) ∧ St w0 W' M N q o a b c r t ra h1 u1 rb h2 u2 rc h3 u3 ws gs vs es fa fb fc ga (putX ws gb p) gc :=
  (putR_any rb r h2 u2 ws gs gb W h.r2 p hp).mono (fun e W' ⟨h1, h2, h3⟩ => ⟨h1, h.set_rb h2 h3 (h.fin.2.1.put p)⟩)
theorem St.com_rb (h : St w0 W M N q o a b c r t ra h1 u1 rb h2 u2 rc h3 u3 ws gs vs es fa fb fc ga gb gc) :
    Calls Try.prog 17 #[.pointer (some ⟨rb, 0, none⟩)] W fun e W' => e = .returned (.tuple #[.agg #[.int .u32 (bestTo ws gs gb 7).e, .int .u32 (bestTo ws gs gb 7).n], .bool (bestTo ws gs gb 7).s]) ∧ Below W.heap.size W W' :=
  committedR rb r h2 u2 ws gs gb W h.r2 h.fin.2.1
theorem St.set_rc {f' : Nat → Ak} (h : St w0 W M N q o a b c r t ra h1 u1 rb h2 u2 rc h3 u3 ws gs vs es fa fb fc ga gb gc) (ho : Only (fun k => k = h3 ∨ k = u3) W W') (hk : RAcks M W' rc t h3 u3 vs es f') (hf : Fin vs f') : St w0 W' M N q o a b c r t ra h1 u1 rb h2 u2 rc h3 u3 ws gs vs es fa fb fc ga gb f' := by
  obtain ⟨bel, sq, so, ka, kb, kc, r1, r2, r3, ⟨fin1, fin2, fin3⟩, ord, ord2, ord3, lst⟩ := h
  have hz := ho.size
  exact ⟨Only.belT bel ho (by omega), sq.only ho (by omega) (by omega), so.only ho (by omega) (by omega), ho.blk ka (by omega), ho.blk kb (by omega), ho.blk kc (by omega), r1.only ho (by omega) (by omega) (by omega) (by omega), r2.only ho (by omega) (by omega) (by omega) (by omega), hk, ⟨fin1, fin2, hf⟩, ord, ord2, ord3, by omega⟩
theorem St.put_rc (h : St w0 W M N q o a b c r t ra h1 u1 rb h2 u2 rc h3 u3 ws gs vs es fa fb fc ga gb gc) (p : Pt) (hp : -128 ≤ p.s ∧ p.s ≤ 127) :
    Calls Try.prog 15 #[.pointer (some ⟨rc, 0, none⟩), .int .i8 p.s, .agg #[.int .u32 p.e, .int .u32 p.n]] W fun e W' => (∃ x, e = .returned (.int .i64 x)) ∧ St w0 W' M N q o a b c r t ra h1 u1 rb h2 u2 rc h3 u3 ws gs vs es fa fb fc ga gb (putX vs gc p) :=
  (putR_any rc t h3 u3 vs es gc W h.r3 p hp).mono (fun e W' ⟨h1, h2, h3⟩ => ⟨h1, h.set_rc h2 h3 (h.fin.2.2.put p)⟩)
theorem St.com_rc (h : St w0 W M N q o a b c r t ra h1 u1 rb h2 u2 rc h3 u3 ws gs vs es fa fb fc ga gb gc) :
    Calls Try.prog 17 #[.pointer (some ⟨rc, 0, none⟩)] W fun e W' => e = .returned (.tuple #[.agg #[.int .u32 (bestTo vs es gc 7).e, .int .u32 (bestTo vs es gc 7).n], .bool (bestTo vs es gc 7).s]) ∧ Below W.heap.size W W' :=
  committedR rc t h3 u3 vs es gc W h.r3 h.fin.2.2
end Go.Proofs.Ytfkbknkmanphfaa.Q
