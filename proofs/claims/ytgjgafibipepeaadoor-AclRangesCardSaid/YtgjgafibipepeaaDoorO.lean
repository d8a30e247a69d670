import Derived.Test.YtgjgafibipepeaaDoorN
namespace Go.Proofs.YtgjgafibipepeaaDoor.Q
open Go.RowKit Go.Proofs.YtgjgafibipepeaaDoorW.PrintWords Go.Deep Go.Maps Go.WideShapes Go.Lib
set_option linter.unusedVariables false
set_option linter.unusedSimpArgs false
attribute [local go_sem] Oper.semAt_some

/-! RANGES MEET BY THEIR FIRST BITS -/
theorem agree_iff {p q : Quad} {k n : Nat} (h : agree k p q) (hk : k = 32 ∨ bitQ p k ≠ bitQ q k) (hn : n ≤ 32) : agree n p q ↔ n ≤ k := by
  constructor
  · intro ha
    rcases hk with rfl | hk
    · exact hn
    · by_cases hnk : n ≤ k
      · exact hnk
      · exact absurd (ha k (by omega)) hk
  · intro hnk i hi
    exact h i (by omega)
theorem no_ip : schNo sIp = 2 := by decide
theorem meets_range {p q : Quad} {n : Nat} (hp : small p) (hq : small q) (hn : n ≤ 32) : meetsB sIp (quadT p ++ 47 :: decDigits n) sIp (quadT q) = decide (agree n p q) := by
  have h1 : rangeB (quadT p ++ 47 :: decDigits n) = some (p, n) := rangeB_some.2 ⟨hp, .inr ⟨rfl, hn⟩⟩
  have h2 : addrB (quadT q) = some q := addrB_some.2 ⟨rfl, hq⟩
  unfold meetsB entryB clientB meetB
  rw [no_ip]
  simp only [entryN, clientN, h1, h2]
  rfl
theorem meets_plain {p q : Quad} (hp : small p) (hq : small q) : meetsB sIp (quadT p) sIp (quadT q) = decide (agree 32 p q) := by
  have h1 : rangeB (quadT p) = some (p, 32) := rangeB_some.2 ⟨hp, .inl ⟨rfl, rfl⟩⟩
  have h2 : addrB (quadT q) = some q := addrB_some.2 ⟨rfl, hq⟩
  unfold meetsB entryB clientB meetB
  rw [no_ip]
  simp only [entryN, clientN, h1, h2]
  rfl
theorem meets_beyond (p q : Quad) : meetsB sIp (quadT p ++ [47, 51, 51]) sIp (quadT q) = false := by
  have h1 : rangeB (quadT p ++ [47, 51, 51]) = none := by
    rw [range_cut (slash_quad p)]
    have : numB 32 [51, 51] = none := by
      unfold numB
      rw [if_neg (by simp [val])]
    rw [this]
    cases addrB (quadT p) <;> rfl
  unfold meetsB entryB
  rw [no_ip]
  simp only [entryN, h1]
  rfl
theorem quad_cell {q : Quad} {W : World} {g : Nat} {t : TypeId} (h : W.heap[g]? = some (.cells #[.int .u8 q.1, .int .u8 q.2.1, .int .u8 q.2.2.1, .int .u8 q.2.2.2] t (0, 0))) {i : Nat} (hi : i < 4) : W.cell? ⟨g, i, none⟩ = some (.int .u8 (byteAt q i)) := by
  have hc : i = 0 ∨ i = 1 ∨ i = 2 ∨ i = 3 := by omega
  rcases hc with rfl | rfl | rfl | rfl <;> exact cell_row h rfl
theorem byte_le {q : Quad} (h : small q) (i : Nat) : byteAt q i ≤ 255 := by
  obtain ⟨h1, h2, h3, h4⟩ := h
  unfold byteAt
  split <;> assumption
theorem quad_len {q : Quad} (h : small q) : (quadT q).length ≤ 15 := by
  obtain ⟨h1, h2, h3, h4⟩ := h
  have l1 := dec_len h1
  have l2 := dec_len h2
  have l3 := dec_len h3
  have l4 := dec_len h4
  unfold quadT
  simp
  omega
theorem and_one {x : Nat} (h : x < 256) : bits .and .u8 (x : Int) 1 = ((x % 2 : Nat) : Int) := by
  have := u8_and_nat x 1 h (by omega)
  rw [Nat.and_one_is_mod] at this
  exact this
theorem bit_of {x : Nat} (h : x ≤ 255) (m : Nat) : bits .and .u8 ((x : Int) / 2 ^ m) 1 = ((x / 2 ^ m % 2 : Nat) : Int) := by
  have e : ((x : Int) / 2 ^ m) = ((x / 2 ^ m : Nat) : Int) := by simp
  rw [e]
  exact and_one (by have := Nat.div_le_self x (2 ^ m); omega)
set_option maxRecDepth 100000 in
set_option maxHeartbeats 16000000 in
theorem aclRanges_calls (p q : Quad) (w : World) (hp : small p) (hq : small q) (hE : Env w) : Calls Tryd.prog 3 #[quadV p, quadV q] w fun e w' => e = .returned (.bool true) ∧ Below w.heap.size w w' := by
  have KT := Lib.hid (fun (x : Quad) (h : small x) W => lText_calls x W h)
  have HE := Lib.hid hE
  obtain ⟨a0, a1, a2, a3⟩ := p
  obtain ⟨b0, b1, b2, b3⟩ := q
  have HP := Lib.hid (And.intro hp hq)
  obtain ⟨p, hP⟩ : ∃ p : Quad, (a0, a1, a2, a3) = p := ⟨_, rfl⟩
  obtain ⟨q, hQ⟩ : ∃ q : Quad, (b0, b1, b2, b3) = q := ⟨_, rfl⟩
  have K1 := Lib.hid (KT.out (a0, a1, a2, a3) hp)
  have K2 := Lib.hid (KT.out (b0, b1, b2, b3) hq)
  rw [hP] at K1
  rw [hQ] at K2
  rw [hP, hQ] at HP
  rw [← hP] at K1
  rw [← hQ] at K2
  have HPQ := Lib.hid (And.intro hP hQ)
  obtain ⟨W0, hW0⟩ : ∃ V, (w.alloc (.cells #[.int .u8 a0, .int .u8 a1, .int .u8 a2, .int .u8 a3] 22)).alloc (.cells #[.int .u8 b0, .int .u8 b1, .int .u8 b2, .int .u8 b3] 22) = V := ⟨_, rfl⟩
  have hB0 : Below w.heap.size w W0 := hW0 ▸ below_alloc (below_alloc (Below.refl _ w) _) _
  have ha0 : W0.heap[w.heap.size]? = some (.cells #[.int .u8 a0, .int .u8 a1, .int .u8 a2, .int .u8 a3] 22 (0, 0)) := hW0 ▸ (Below.heap_alloc _ _ _ (by simp)).trans (World.alloc_heap_new w _)
  have hb0 : W0.heap[w.heap.size + 1]? = some (.cells #[.int .u8 b0, .int .u8 b1, .int .u8 b2, .int .u8 b3] 22 (0, 0)) := by
    have := World.alloc_heap_new (w.alloc (.cells #[.int .u8 a0, .int .u8 a1, .int .u8 a2, .int .u8 a3] 22)) (.cells #[.int .u8 b0, .int .u8 b1, .int .u8 b2, .int .u8 b3] 22)
    rw [World.size_alloc] at this
    rw [← hW0]; exact this
  have H0 := Lib.hid (And.intro hB0 (And.intro ha0 hb0))
  have c0 := cell_row (k := 0) (v := .int .u8 a0) ha0 rfl
  have c1 := cell_row (k := 1) (v := .int .u8 a1) ha0 rfl
  have c2 := cell_row (k := 2) (v := .int .u8 a2) ha0 rfl
  have c3 := cell_row (k := 3) (v := .int .u8 a3) ha0 rfl
  simp only [quadV, byteV] at K1 K2 ⊢
  clear hP hQ hB0 ha0 hb0 hE hp hq
  go_enter Tryd.func3, Tryd.ntmps3
  go_wp2_with fail
  refine (K1.out _).mono ?_
  rintro e w1 ⟨rfl, hB1⟩
  clear hW0
  have hb1 := block_of hB1 H0.out.2.2
  have H1 := Lib.hid (And.intro (below_step H0.out.1 hB1) (And.intro (block_of hB1 H0.out.2.1) hb1))
  have d0 := cell_row (k := 0) (v := .int .u8 b0) hb1 rfl
  have d1 := cell_row (k := 1) (v := .int .u8 b1) hb1 rfl
  have d2 := cell_row (k := 2) (v := .int .u8 b2) hb1 rfl
  have d3 := cell_row (k := 3) (v := .int .u8 b3) hb1 rfl
  clear hB1 hb1 c0 c1 c2 c3
  go_wp2_with fail
  refine (K2.out _).mono ?_
  rintro e w2 ⟨rfl, hB2⟩
  obtain ⟨W3, hW3⟩ : ∃ V, w2.alloc (.cells #[.string ⟨#[105, 112]⟩, .string (B (quadT q))] 25) = V := ⟨_, rfl⟩
  have hm2 : Below w2.heap.size w2 W3 := hW3 ▸ below_alloc (Below.refl _ w2) _
  have H3 := Lib.hid (And.intro (below_step (below_step H1.out.1 hB2) hm2) (And.intro (block_of hm2 (block_of hB2 H1.out.2.1)) (And.intro (block_of hm2 (block_of hB2 H1.out.2.2)) (show W3.heap[w2.heap.size]? = some (.cells #[.string ⟨#[105, 112]⟩, .string (B (quadT q))] 25 (0, 0)) from hW3 ▸ World.alloc_heap_new w2 _))))
  rw [HPQ.out.1, HPQ.out.2]
  clear hB2 hm2 d0 d1 d2 d3
  go_wp2_with fail
  clear hW3
  have HA3 : Hid (W3.heap[w.heap.size]? = some (.cells #[.int .u8 p.1, .int .u8 p.2.1, .int .u8 p.2.2.1, .int .u8 p.2.2.2] 22 (0, 0)) ∧ W3.heap[w.heap.size + 1]? = some (.cells #[.int .u8 q.1, .int .u8 q.2.1, .int .u8 q.2.2.1, .int .u8 q.2.2.2] 22 (0, 0))) := Lib.hid ⟨by rw [← HPQ.out.1]; exact H3.out.2.1, by rw [← HPQ.out.2]; exact H3.out.2.2.1⟩
  go_loopw [7] (fun vk wr => ∃ k : Nat, k ≤ 32 ∧ vk = .int .i64 k ∧ Hid (agree k p q) ∧ Hid (Below W3.heap.size W3 wr)) (fun vk _ => 32 - (intOf vk).toNat)
  case atStart => exact ⟨0, by omega, rfl, Lib.hid (fun i hi => absurd hi (Nat.not_lt_zero _)), Lib.hid (Below.refl _ _)⟩
  case round =>
    obtain ⟨k, hk, rfl, HAG, HB⟩ := hrel
    by_cases h32 : k < 32
    · have g0 : decide ((k : Int) < 32) = true := decide_eq_true (by omega)
      have cp := quad_cell (block_of HB.out HA3.out.1) (i := k / 8) (by omega)
      have cq := quad_cell (block_of HB.out HA3.out.2) (i := k / 8) (by omega)
      obtain ⟨x, hx⟩ : ∃ x, byteAt p (k / 8) = x := ⟨_, rfl⟩
      obtain ⟨y, hy⟩ : ∃ x, byteAt q (k / 8) = x := ⟨_, rfl⟩
      have hx8 : x ≤ 255 := by rw [← hx]; exact byte_le HP.out.1 _
      have hy8 : y ≤ 255 := by rw [← hy]; exact byte_le HP.out.2 _
      rw [hx] at cp
      rw [hy] at cq
      have yp := cell_regrown cp
      have yq := cell_regrown cq
      have HXY := Lib.hid (And.intro hx hy)
      clear hx hy cp cq
      go_wp2_with fail
      refine wp_region_quiet_below (by kernel_rfl) (by kernel_rfl) ?_
      repeat (go_big_quiet_step (fail))
      refine wpQuiet_nil ?_
      intro _ hw'
      obtain ⟨⟨dq, osq⟩, hw''⟩ := hw'
      subst hw''
      rw [bit_of hx8, bit_of hy8]
      have HB7 := Lib.hid (below_step HB.out (below_regrown wr dq osq))
      obtain ⟨W7, hW7⟩ : ∃ V, Go.Sort.grow (redrawn wr dq) osq = V := ⟨_, rfl⟩
      rw [hW7] at HB7
      simp only [hW7]
      clear yp yq hW7
      have hbp : x / 2 ^ (7 - k % 8) % 2 = bitQ p k := by rw [← HXY.out.1]; rfl
      have hbq : y / 2 ^ (7 - k % 8) % 2 = bitQ q k := by rw [← HXY.out.2]; rfl
      rw [hbp, hbq]
      obtain ⟨u, hu⟩ : ∃ u, bitQ p k = u := ⟨_, rfl⟩
      obtain ⟨v, hv⟩ : ∃ u, bitQ q k = u := ⟨_, rfl⟩
      rw [hu, hv]
      have HUV := Lib.hid (And.intro hu hv)
      clear hbp hbq hu hv
      by_cases huv : u = v
      · subst huv
        have HA2 : Hid (agree (k + 1) p q) := Lib.hid (fun i hi => by
          by_cases hi2 : i < k
          · exact HAG.out i hi2
          · obtain rfl : i = k := by omega
            rw [HUV.out.1, HUV.out.2])
        have g5 : ((u : Int) == (u : Int)) = true := beq_self_eq_true _
        go_wp2
        exact ⟨⟨k + 1, by omega, by go_num, HA2, HB7⟩, by simp [intOf]; omega⟩
      · have g5 : ((u : Int) == (v : Int)) = false := beq_eq_false_iff_ne.2 (by omega)
        have HEND : Hid (k = 32 ∨ bitQ p k ≠ bitQ q k) := Lib.hid (.inr (by rw [HUV.out.1, HUV.out.2]; exact huv))
        clear huv HB
        have HB := HB7
        clear HB7
        go_wp2_with fail
        obtain ⟨wr, hwr⟩ : ∃ V, W7 = V := ⟨_, rfl⟩
        rw [hwr] at HB ⊢
        clear hwr
        have HM1 := Lib.hid (fun (n : Nat) (h : n ≤ 32) => meets_range HP.out.1 HP.out.2 h (p := p) (q := q) (n := n))
        have HSAME := Lib.hid (fun (n : Nat) (h : n ≤ 32) => agree_iff HAG.out HEND.out h)
        have HB5 := Lib.hid (below_step H3.out.1 HB.out)
        have hz5 := block_of HB.out H3.out.2.2.2
        have HZ5 := Lib.hid hz5
        clear hz5
        obtain ⟨W5, hW5⟩ : ∃ V, wr = V := ⟨_, rfl⟩
        rw [hW5] at HB5 HZ5 ⊢
        clear hW5 HB
        go_loopw [8] (fun vn wq => ∃ n : Nat, n ≤ 33 ∧ vn = .int .i64 n ∧ Hid (Below W5.heap.size W5 wq)) (fun vn _ => 33 - (intOf vn).toNat)
        case atStart => exact ⟨0, by omega, rfl, Lib.hid (Below.refl _ _)⟩
        case round =>
          obtain ⟨n, hn, rfl, HB⟩ := hrel
          by_cases h33 : n ≤ 32
          · have g1 : decide ((n : Int) ≤ 32) = true := decide_eq_true (by omega)
            have hB6 := below_step HB5.out HB.out
            have hz6 := block_of HB.out HZ5.out
            have y0 := cell_regrown (cell_row (k := 0) (v := .string ⟨#[105, 112]⟩) hz6 rfl)
            have y1 := cell_regrown (cell_row (k := 1) (v := .string (B (quadT q))) hz6 rfl)
            have k1 : ∀ dd os, Calls Tryd.prog 8 #[.int .i64 n] (Go.Sort.grow (redrawn wr dd) os) fun e w'' => e = .returned (.string (B (decDigits n))) ∧ ∃ p : Regrown, w'' = Go.Sort.grow (redrawn wr p.d) p.os := fun dd os => Calls.regrown_of (lNumber_calls n _ (by omega))
            have hcat : B (quadT p) ++ ⟨#[47]⟩ ++ B (decDigits n) = B (quadT p ++ 47 :: decDigits n) := by
              show B (quadT p) ++ B [47] ++ B (decDigits n) = _
              simp only [B_append, List.append_assoc, List.cons_append, List.nil_append]
            have hlp := quad_len HP.out.1
            have hlq := quad_len HP.out.2
            have hld := dec_len (k := n) (by omega)
            have k2 : ∀ dd os, Calls Tryd.prog 7 #[.agg #[.string ⟨#[105, 112]⟩, .string (B (quadT p) ++ ⟨#[47]⟩ ++ B (decDigits n))], .agg #[.string ⟨#[105, 112]⟩, .string (B (quadT q))]] (Go.Sort.grow (redrawn wr dd) os) fun e w'' => e = .returned (.bool (decide (n ≤ k))) ∧ ∃ p : Regrown, w'' = Go.Sort.grow (redrawn wr p.d) p.os := fun dd os => Calls.regrown_of (by
              rw [hcat]
              have := Meets_calls ⟨#[105, 112]⟩ (B (quadT p ++ 47 :: decDigits n)) ⟨#[105, 112]⟩ (B (quadT q)) (Go.Sort.grow (redrawn wr dd) os) (by decide) (by rw [B_size]; simp; omega) (by decide) (by rw [B_size]; omega) ((HE.out.below hB6).below (below_regrown wr dd os))
              have hm : meetsB sIp (quadT p ++ 47 :: decDigits n) sIp (quadT q) = decide (n ≤ k) := by rw [HM1.out n h33]; exact decide_eq_decide.2 (HSAME.out n h33)
              rw [← hm]
              exact this)
            have l1 : (B (quadT p)).size ≤ 15 := by rw [B_size]; exact hlp
            have l2 : (B (decDigits n)).size ≤ 3 := by rw [B_size]; exact hld
            have l3 : (B (quadT p) ++ ⟨#[47]⟩).size ≤ 16 := by rw [ByteArray.size_append]; have : (⟨#[47]⟩ : ByteArray).size = 1 := rfl; omega
            have HB6 := Lib.hid hB6
            clear hB6 hz6 hcat hlp hlq hld
            obtain ⟨P, hP⟩ : ∃ P, B (quadT p) = P := ⟨_, rfl⟩
            obtain ⟨Q, hQ⟩ : ∃ P, B (quadT q) = P := ⟨_, rfl⟩
            obtain ⟨D, hD⟩ : ∃ P, B (decDigits n) = P := ⟨_, rfl⟩
            rw [hP] at k2 l1 l3
            rw [hD] at k1 k2 l2
            rw [hQ] at y1 k2
            have HPQD := Lib.hid (And.intro hP hQ)
            obtain ⟨r, hr⟩ : ∃ r, decide (n ≤ k) = r := ⟨_, rfl⟩
            rw [hr] at k2
            have g2 : decide (n ≤ k) = r := hr
            have g3 : decide ((n : Int) ≤ (k : Int)) = r := by rw [← hr]; exact decide_eq_decide.2 (by omega)
            clear hr hD
            go_wp2_with fail
            rw [hP]
            clear hP hQ
            refine wp_region_quiet_below (by kernel_rfl) (by kernel_rfl) ?_
            repeat (go_big_quiet_step (first | (with_reducible exact k1 _ _) | (with_reducible exact k2 _ _)))
            refine wpQuiet_nil ?_
            intro _ hw'
            obtain ⟨⟨dq, osq⟩, hw''⟩ := hw'
            subst hw''
            have HB7 := Lib.hid (below_step HB.out (below_regrown wr dq osq))
            obtain ⟨W7, hW7⟩ : ∃ V, Go.Sort.grow (redrawn wr dq) osq = V := ⟨_, rfl⟩
            rw [hW7] at HB7
            simp only [hW7]
            rw [← HPQD.out.1]
            clear y0 y1 k1 k2 hW7
            cases r with
            | true =>
              go_wp2
              exact ⟨⟨n + 1, by omega, by go_num, HB7⟩, by simp [intOf]; omega⟩
            | false =>
              go_wp2
              exact ⟨⟨n + 1, by omega, by go_num, HB7⟩, by simp [intOf]; omega⟩
          · have g1 : decide ((n : Int) ≤ 32) = false := decide_eq_false (by omega)
            have HB6 := Lib.hid (below_step HB5.out HB.out)
            have HZ6 := Lib.hid (block_of HB.out HZ5.out)
            have y0 := cell_row (k := 0) (v := .string ⟨#[105, 112]⟩) HZ6.out rfl
            have y1 := cell_row (k := 1) (v := .string (B (quadT q))) HZ6.out rfl
            have hlp := quad_len HP.out.1
            have hlq := quad_len HP.out.2
            have KA := Meets_calls ⟨#[105, 112]⟩ (B (quadT p)) ⟨#[105, 112]⟩ (B (quadT q)) wr (by decide) (by rw [B_size]; omega) (by decide) (by rw [B_size]; omega) (HE.out.below HB6.out)
            have hm : meetsB sIp (quadT p) sIp (quadT q) = decide (32 ≤ k) := by rw [meets_plain HP.out.1 HP.out.2]; exact decide_eq_decide.2 (HSAME.out 32 (by omega))
            have KA2 : Calls Tryd.prog 7 #[.agg #[.string ⟨#[105, 112]⟩, .string (B (quadT p))], .agg #[.string ⟨#[105, 112]⟩, .string (B (quadT q))]] wr fun e w' => e = .returned (.bool (decide (32 ≤ k))) ∧ Below wr.heap.size wr w' := by rw [← hm]; exact KA
            have HKA := Lib.hid KA2
            have hcat : B (quadT p) ++ ⟨#[47, 51, 51]⟩ = B (quadT p ++ [47, 51, 51]) := by
              show B (quadT p) ++ B [47, 51, 51] = _
              rw [B_append]
            have HKB := Lib.hid (fun W (hW : Below w.heap.size w W) => (show Calls Tryd.prog 7 #[.agg #[.string ⟨#[105, 112]⟩, .string (B (quadT p) ++ ⟨#[47, 51, 51]⟩)], .agg #[.string ⟨#[105, 112]⟩, .string (B (quadT q))]] W fun e w' => e = .returned (.bool false) ∧ Below W.heap.size W w' from by
              have := Meets_calls ⟨#[105, 112]⟩ (B (quadT p ++ [47, 51, 51])) ⟨#[105, 112]⟩ (B (quadT q)) W (by decide) (by rw [B_size]; simp; omega) (by decide) (by rw [B_size]; omega) (HE.out.below hW)
              rw [← hcat] at this
              have hm2 : meetsB sIp (quadT p ++ [47, 51, 51]) sIp (quadT q) = false := meets_beyond p q
              rw [← hm2]
              exact this))
            have l1 : (B (quadT p)).size ≤ 15 := by rw [B_size]; exact hlp
            have HG : Hid (((k : Int) == 32) = decide (32 ≤ k)) := Lib.hid (by
              by_cases e : k = 32
              · subst e; rfl
              · rw [beq_eq_false_iff_ne.2 (by omega), decide_eq_false (by omega)])
            obtain ⟨P, hP⟩ : ∃ P, B (quadT p) = P := ⟨_, rfl⟩
            obtain ⟨Q, hQ⟩ : ∃ P, B (quadT q) = P := ⟨_, rfl⟩
            rw [hP] at HKA HKB l1
            rw [hQ] at y1 HKA HKB HZ6
            have HPQ2 := Lib.hid (And.intro hP hQ)
            obtain ⟨r, hr⟩ : ∃ r, decide (32 ≤ k) = r := ⟨_, rfl⟩
            rw [hr] at HKA HG
            have g6 := HG.out
            clear hr KA KA2 hm hcat hlp hlq
            go_wp2_with fail
            rw [hP]
            clear hP hQ
            refine HKA.out.mono ?_
            rintro e w8 ⟨rfl, hB8⟩
            have HB8 := Lib.hid (below_step HB6.out hB8)
            have hz8 := block_of hB8 HZ6.out
            have x0 := cell_row (k := 0) (v := .string ⟨#[105, 112]⟩) hz8 rfl
            have x1 := cell_row (k := 1) (v := .string Q) hz8 rfl
            clear hB8 hz8 y0 y1
            go_wp2_with fail
            refine (HKB.out _ HB8.out).mono ?_
            rintro e w9 ⟨rfl, hB9⟩
            have HB9 := Lib.hid (below_step HB8.out hB9)
            clear hB9
            cases r with
            | true =>
              go_wp2
              go_ret
              exact ⟨rfl, HB9.out⟩
            | false =>
              go_wp2
              go_ret
              exact ⟨rfl, HB9.out⟩
    · have g0 : decide ((k : Int) < 32) = false := decide_eq_false (by omega)
      have HEND : Hid (k = 32 ∨ bitQ p k ≠ bitQ q k) := Lib.hid (.inl (by omega))
      go_wp2_with fail
      refine wp_region_quiet_below (by kernel_rfl) (by kernel_rfl) ?_
      repeat (go_big_quiet_step (fail))
      refine wpQuiet_nil ?_
      intro _ hw'
      obtain ⟨⟨dq, osq⟩, hw''⟩ := hw'
      subst hw''
      have HB7 := Lib.hid (below_step HB.out (below_regrown wr dq osq))
      obtain ⟨W7, hW7⟩ : ∃ V, Go.Sort.grow (redrawn wr dq) osq = V := ⟨_, rfl⟩
      rw [hW7] at HB7
      simp only [hW7]
      clear hW7 HB
      have HB := HB7
      clear HB7
      go_wp2_with fail
      obtain ⟨wr, hwr⟩ : ∃ V, W7 = V := ⟨_, rfl⟩
      rw [hwr] at HB ⊢
      clear hwr
      have HM1 := Lib.hid (fun (n : Nat) (h : n ≤ 32) => meets_range HP.out.1 HP.out.2 h (p := p) (q := q) (n := n))
      have HSAME := Lib.hid (fun (n : Nat) (h : n ≤ 32) => agree_iff HAG.out HEND.out h)
      have HB5 := Lib.hid (below_step H3.out.1 HB.out)
      have hz5 := block_of HB.out H3.out.2.2.2
      have HZ5 := Lib.hid hz5
      clear hz5
      obtain ⟨W5, hW5⟩ : ∃ V, wr = V := ⟨_, rfl⟩
      rw [hW5] at HB5 HZ5 ⊢
      clear hW5 HB
      go_loopw [8] (fun vn wq => ∃ n : Nat, n ≤ 33 ∧ vn = .int .i64 n ∧ Hid (Below W5.heap.size W5 wq)) (fun vn _ => 33 - (intOf vn).toNat)
      case atStart => exact ⟨0, by omega, rfl, Lib.hid (Below.refl _ _)⟩
      case round =>
        obtain ⟨n, hn, rfl, HB⟩ := hrel
        by_cases h33 : n ≤ 32
        · have g1 : decide ((n : Int) ≤ 32) = true := decide_eq_true (by omega)
          have hB6 := below_step HB5.out HB.out
          have hz6 := block_of HB.out HZ5.out
          have y0 := cell_regrown (cell_row (k := 0) (v := .string ⟨#[105, 112]⟩) hz6 rfl)
          have y1 := cell_regrown (cell_row (k := 1) (v := .string (B (quadT q))) hz6 rfl)
          have k1 : ∀ dd os, Calls Tryd.prog 8 #[.int .i64 n] (Go.Sort.grow (redrawn wr dd) os) fun e w'' => e = .returned (.string (B (decDigits n))) ∧ ∃ p : Regrown, w'' = Go.Sort.grow (redrawn wr p.d) p.os := fun dd os => Calls.regrown_of (lNumber_calls n _ (by omega))
          have hcat : B (quadT p) ++ ⟨#[47]⟩ ++ B (decDigits n) = B (quadT p ++ 47 :: decDigits n) := by
            show B (quadT p) ++ B [47] ++ B (decDigits n) = _
            simp only [B_append, List.append_assoc, List.cons_append, List.nil_append]
          have hlp := quad_len HP.out.1
          have hlq := quad_len HP.out.2
          have hld := dec_len (k := n) (by omega)
          have k2 : ∀ dd os, Calls Tryd.prog 7 #[.agg #[.string ⟨#[105, 112]⟩, .string (B (quadT p) ++ ⟨#[47]⟩ ++ B (decDigits n))], .agg #[.string ⟨#[105, 112]⟩, .string (B (quadT q))]] (Go.Sort.grow (redrawn wr dd) os) fun e w'' => e = .returned (.bool (decide (n ≤ k))) ∧ ∃ p : Regrown, w'' = Go.Sort.grow (redrawn wr p.d) p.os := fun dd os => Calls.regrown_of (by
            rw [hcat]
            have := Meets_calls ⟨#[105, 112]⟩ (B (quadT p ++ 47 :: decDigits n)) ⟨#[105, 112]⟩ (B (quadT q)) (Go.Sort.grow (redrawn wr dd) os) (by decide) (by rw [B_size]; simp; omega) (by decide) (by rw [B_size]; omega) ((HE.out.below hB6).below (below_regrown wr dd os))
            have hm : meetsB sIp (quadT p ++ 47 :: decDigits n) sIp (quadT q) = decide (n ≤ k) := by rw [HM1.out n h33]; exact decide_eq_decide.2 (HSAME.out n h33)
            rw [← hm]
            exact this)
          have l1 : (B (quadT p)).size ≤ 15 := by rw [B_size]; exact hlp
          have l2 : (B (decDigits n)).size ≤ 3 := by rw [B_size]; exact hld
          have l3 : (B (quadT p) ++ ⟨#[47]⟩).size ≤ 16 := by rw [ByteArray.size_append]; have : (⟨#[47]⟩ : ByteArray).size = 1 := rfl; omega
          have HB6 := Lib.hid hB6
          clear hB6 hz6 hcat hlp hlq hld
          obtain ⟨P, hP⟩ : ∃ P, B (quadT p) = P := ⟨_, rfl⟩
          obtain ⟨Q, hQ⟩ : ∃ P, B (quadT q) = P := ⟨_, rfl⟩
          obtain ⟨D, hD⟩ : ∃ P, B (decDigits n) = P := ⟨_, rfl⟩
          rw [hP] at k2 l1 l3
          rw [hD] at k1 k2 l2
          rw [hQ] at y1 k2
          have HPQD := Lib.hid (And.intro hP hQ)
          obtain ⟨r, hr⟩ : ∃ r, decide (n ≤ k) = r := ⟨_, rfl⟩
          rw [hr] at k2
          have g2 : decide (n ≤ k) = r := hr
          have g3 : decide ((n : Int) ≤ (k : Int)) = r := by rw [← hr]; exact decide_eq_decide.2 (by omega)
          clear hr hD
          go_wp2_with fail
          rw [hP]
          clear hP hQ
          refine wp_region_quiet_below (by kernel_rfl) (by kernel_rfl) ?_
          repeat (go_big_quiet_step (first | (with_reducible exact k1 _ _) | (with_reducible exact k2 _ _)))
          refine wpQuiet_nil ?_
          intro _ hw'
          obtain ⟨⟨dq, osq⟩, hw''⟩ := hw'
          subst hw''
          have HB7 := Lib.hid (below_step HB.out (below_regrown wr dq osq))
          obtain ⟨W7, hW7⟩ : ∃ V, Go.Sort.grow (redrawn wr dq) osq = V := ⟨_, rfl⟩
          rw [hW7] at HB7
          simp only [hW7]
          rw [← HPQD.out.1]
          clear y0 y1 k1 k2 hW7
          cases r with
          | true =>
            go_wp2
            exact ⟨⟨n + 1, by omega, by go_num, HB7⟩, by simp [intOf]; omega⟩
          | false =>
            go_wp2
            exact ⟨⟨n + 1, by omega, by go_num, HB7⟩, by simp [intOf]; omega⟩
        · have g1 : decide ((n : Int) ≤ 32) = false := decide_eq_false (by omega)
          have HB6 := Lib.hid (below_step HB5.out HB.out)
          have HZ6 := Lib.hid (block_of HB.out HZ5.out)
          have y0 := cell_row (k := 0) (v := .string ⟨#[105, 112]⟩) HZ6.out rfl
          have y1 := cell_row (k := 1) (v := .string (B (quadT q))) HZ6.out rfl
          have hlp := quad_len HP.out.1
          have hlq := quad_len HP.out.2
          have KA := Meets_calls ⟨#[105, 112]⟩ (B (quadT p)) ⟨#[105, 112]⟩ (B (quadT q)) wr (by decide) (by rw [B_size]; omega) (by decide) (by rw [B_size]; omega) (HE.out.below HB6.out)
          have hm : meetsB sIp (quadT p) sIp (quadT q) = decide (32 ≤ k) := by rw [meets_plain HP.out.1 HP.out.2]; exact decide_eq_decide.2 (HSAME.out 32 (by omega))
          have KA2 : Calls Tryd.prog 7 #[.agg #[.string ⟨#[105, 112]⟩, .string (B (quadT p))], .agg #[.string ⟨#[105, 112]⟩, .string (B (quadT q))]] wr fun e w' => e = .returned (.bool (decide (32 ≤ k))) ∧ Below wr.heap.size wr w' := by rw [← hm]; exact KA
          have HKA := Lib.hid KA2
          have hcat : B (quadT p) ++ ⟨#[47, 51, 51]⟩ = B (quadT p ++ [47, 51, 51]) := by
            show B (quadT p) ++ B [47, 51, 51] = _
            rw [B_append]
          have HKB := Lib.hid (fun W (hW : Below w.heap.size w W) => (show Calls Tryd.prog 7 #[.agg #[.string ⟨#[105, 112]⟩, .string (B (quadT p) ++ ⟨#[47, 51, 51]⟩)], .agg #[.string ⟨#[105, 112]⟩, .string (B (quadT q))]] W fun e w' => e = .returned (.bool false) ∧ Below W.heap.size W w' from by
            have := Meets_calls ⟨#[105, 112]⟩ (B (quadT p ++ [47, 51, 51])) ⟨#[105, 112]⟩ (B (quadT q)) W (by decide) (by rw [B_size]; simp; omega) (by decide) (by rw [B_size]; omega) (HE.out.below hW)
            rw [← hcat] at this
            have hm2 : meetsB sIp (quadT p ++ [47, 51, 51]) sIp (quadT q) = false := meets_beyond p q
            rw [← hm2]
            exact this))
          have l1 : (B (quadT p)).size ≤ 15 := by rw [B_size]; exact hlp
          have HG : Hid (((k : Int) == 32) = decide (32 ≤ k)) := Lib.hid (by
            by_cases e : k = 32
            · subst e; rfl
            · rw [beq_eq_false_iff_ne.2 (by omega), decide_eq_false (by omega)])
          obtain ⟨P, hP⟩ : ∃ P, B (quadT p) = P := ⟨_, rfl⟩
          obtain ⟨Q, hQ⟩ : ∃ P, B (quadT q) = P := ⟨_, rfl⟩
          rw [hP] at HKA HKB l1
          rw [hQ] at y1 HKA HKB HZ6
          have HPQ2 := Lib.hid (And.intro hP hQ)
          obtain ⟨r, hr⟩ : ∃ r, decide (32 ≤ k) = r := ⟨_, rfl⟩
          rw [hr] at HKA HG
          have g6 := HG.out
          clear hr KA KA2 hm hcat hlp hlq
          go_wp2_with fail
          rw [hP]
          clear hP hQ
          refine HKA.out.mono ?_
          rintro e w8 ⟨rfl, hB8⟩
          have HB8 := Lib.hid (below_step HB6.out hB8)
          have hz8 := block_of hB8 HZ6.out
          have x0 := cell_row (k := 0) (v := .string ⟨#[105, 112]⟩) hz8 rfl
          have x1 := cell_row (k := 1) (v := .string Q) hz8 rfl
          clear hB8 hz8 y0 y1
          go_wp2_with fail
          refine (HKB.out _ HB8.out).mono ?_
          rintro e w9 ⟨rfl, hB9⟩
          have HB9 := Lib.hid (below_step HB8.out hB9)
          clear hB9
          cases r with
          | true =>
            go_wp2
            go_ret
            exact ⟨rfl, HB9.out⟩
          | false =>
            go_wp2
            go_ret
            exact ⟨rfl, HB9.out⟩
end Go.Proofs.YtgjgafibipepeaaDoor.Q
