/- The walk of the document's Range. -/
import Derived.Test.YtdipincjginmcaaRefDown
namespace Go.Proofs.Ytdipincjginmcaa
open Go.RowKit

theorem Cv.rf_kid {z x y : Int} (h : Cv.okB z x y = true) (c : z < 26) : Cv.rf z x y (z + 1) = Cv.bv (z + 1) + 4 * Cv.pv z x y := by
  have hB : Cv.rB z x y (z + 1) = true := by unfold Cv.rB; rw [h, decide_eq_true (by have := Cv.ok_in h; omega)]; rfl
  unfold Cv.rf
  rw [if_pos hB, show (z + 1 - z).toNat = 1 by omega]
  simp
  omega
theorem Cv.pv_of {id : Int} (h0 : 0 ≤ id) (h : id < 6004799503160661) : Cv.pv (Cv.oz id) (Cv.ox id) (Cv.oy id) = id - Cv.bv (Cv.oz id) := by
  obtain ⟨t1, t2, _⟩ := Cv.tid_of h0 h
  rw [Cv.tid_ok t1] at t2
  omega
/-- first and last of what lies in a tile, one zoom on -/
theorem Cv.rng_next {tz tx ty u : Int} (h : Cv.okB tz tx ty = true) (c1 : tz ≤ u) (c2 : u ≤ 26) :
    (0 ≤ Cv.rf tz tx ty u ∧ Cv.rf tz tx ty u < 6004799503160661 ∧ 0 ≤ Cv.rt tz tx ty u ∧ Cv.rt tz tx ty u < 6004799503160661) ∧ Cv.oz (Cv.rf tz tx ty u) = u ∧ Cv.oz (Cv.rt tz tx ty u) = u ∧
    (u < 26 → Cv.rf u (Cv.ox (Cv.rf tz tx ty u)) (Cv.oy (Cv.rf tz tx ty u)) (u + 1) = Cv.rf tz tx ty (u + 1) ∧ Cv.rf u (Cv.ox (Cv.rt tz tx ty u)) (Cv.oy (Cv.rt tz tx ty u)) (u + 1) + 3 = Cv.rt tz tx ty (u + 1)) := by
  obtain ⟨⟨r0, r1, r2, r3⟩, r4, r5, r6⟩ := Cv.rng_zoom h c1 c2
  have hlt : ∀ id : Int, 0 ≤ id → Cv.zv id = u → id < 6004799503160661 := by
    intro id h0 hz
    unfold Cv.zv at hz
    by_cases hc : id < 6004799503160661
    · exact hc
    · rw [if_neg hc] at hz
      have := (Cv.ok_in h).1
      omega
  have l1 := hlt _ r0 r4
  have l2 := hlt _ r2 r5
  have z1 : Cv.oz (Cv.rf tz tx ty u) = u := by unfold Cv.oz; rw [if_pos l1, r4]
  have z2 : Cv.oz (Cv.rt tz tx ty u) = u := by unfold Cv.oz; rw [if_pos l2, r5]
  refine ⟨⟨r0, l1, r2, l2⟩, z1, z2, fun hu => ?_⟩
  obtain ⟨t1, _⟩ := Cv.tid_of r0 l1
  obtain ⟨t2, _⟩ := Cv.tid_of r2 l2
  have p1 := Cv.pv_of r0 l1
  have p2 := Cv.pv_of r2 l2
  rw [z1] at t1 p1
  rw [z2] at t2 p2
  rw [Cv.rf_kid t1 hu, Cv.rf_kid t2 hu, p1, p2]
  obtain ⟨n, a, b, rfl, rfl, rfl, hn, ha, hb⟩ := Cv.ok_nat h
  obtain ⟨m, rfl⟩ := Int.eq_ofNat_of_zero_le (show 0 ≤ u by omega)
  obtain ⟨k, rfl⟩ : ∃ k, m = n + k := ⟨m - n, by omega⟩
  obtain ⟨h1, h2, h3⟩ := Cv.rng_nat n a b k (by omega) ha hb
  obtain ⟨g1, g2, g3⟩ := Cv.rng_nat n a b (k + 1) (by omega) ha hb
  have e : (((n + k : Nat) : Int) + 1) = ((n + (k + 1) : Nat) : Int) := by omega
  rw [e, g1, g2, h1, h2, Cv.bv_nat (n + k) (by omega), Cv.bv_nat (n + (k + 1)) (by omega)]
  have h4 := Cv.pow_pos4 k
  rw [Cv.four_succ, show Cv.place n a b * (4 * 4 ^ k) = 4 * (Cv.place n a b * 4 ^ k) by rw [Nat.mul_left_comm]]
  generalize Cv.place n a b * 4 ^ k = P at *
  generalize 4 ^ k = Q at *
  omega

theorem heap_drew (w : World) : w.drew.heap = w.heap := rfl
theorem refrange_not (tz tx ty z : Int) (w : World) (h : Cv.rB tz tx ty z = false) :
    Calls Try.prog 38 #[.agg #[.int .i64 tz, .int .i64 tx, .int .i64 ty], .int .i64 z] w fun e w' => e = .returned (.tuple #[.int .u64 (Cv.rf tz tx ty z), .int .u64 (Cv.rt tz tx ty z), .int .i64 (Cv.re tz tx ty z)]) ∧ Below w.heap.size w w' := by
  have e1 : Cv.rf tz tx ty z = 0 := by unfold Cv.rf; rw [if_neg (by rw [h]; decide)]
  have e2 : Cv.rt tz tx ty z = 0 := by unfold Cv.rt; rw [if_neg (by rw [h]; decide)]
  rw [e1, e2]
  rcases Bool.eq_false_or_eq_true (Cv.okB tz tx ty) with k | k
  · have hc : ¬ (tz ≤ z ∧ z ≤ 26) := by
      intro c
      unfold Cv.rB at h
      rw [k, decide_eq_true c] at h
      cases h
    have e3 : Cv.re tz tx ty z = 8 := by unfold Cv.re; rw [k, if_pos rfl, if_neg hc]
    have hpe := Cv.pe_ok k
    rw [e3]
    clear e1 e2 e3 h k
    rcases (show z < tz ∨ (tz ≤ z ∧ 26 < z) by omega) with c | ⟨c, c'⟩
    all_goals
      clear hc
      go_enter Try.func38, Try.ntmps38
      go_wp2_with fail
      refine (refid_any _ _ _ _).mono ?_; rintro e w1 ⟨rfl, hb1⟩
      obtain ⟨hA, hs1, hw1⟩ := blk_one hb1
      obtain ⟨⟨a0, a1, a2⟩, _⟩ := blk_cells3 hA
      clear hA
      go_wp2_with fail
      go_ret3
      exact ⟨rfl, hw1⟩
  · have e3 : Cv.re tz tx ty z = Cv.pe tz tx ty := by unfold Cv.re; rw [k]; rfl
    have hpe : (Cv.pe tz tx ty != 0) = true := by rcases Cv.pe_not k with q | q <;> rw [q] <;> rfl
    rw [e3]
    clear e1 e2 e3 h k
    go_enter Try.func38, Try.ntmps38
    go_wp2_with fail
    refine (refid_any _ _ _ _).mono ?_; rintro e w1 ⟨rfl, hb1⟩
    obtain ⟨hA, hs1, hw1⟩ := blk_one hb1
    go_wp2_with fail
    go_ret3
    exact ⟨rfl, hw1⟩

set_option maxRecDepth 100000 in
set_option maxHeartbeats 2000000 in
theorem refrange_ok (tz tx ty z : Int) (w : World) (h : Cv.okB tz tx ty = true) (c1 : tz ≤ z) (c2 : z ≤ 26) :
    Calls Try.prog 38 #[.agg #[.int .i64 tz, .int .i64 tx, .int .i64 ty], .int .i64 z] w fun e w' => e = .returned (.tuple #[.int .u64 (Cv.rf tz tx ty z), .int .u64 (Cv.rt tz tx ty z), .int .i64 (Cv.re tz tx ty z)]) ∧ Below w.heap.size w w' := by
  have e3 : Cv.re tz tx ty z = 0 := by unfold Cv.re; rw [h, if_pos rfl, if_pos ⟨c1, c2⟩]
  have hpe := Cv.pe_ok h
  obtain ⟨⟨hz0, hz1⟩, _⟩ := Cv.ok_in h
  have hnx := fun u a b => Cv.rng_next (u := u) h a b
  have HX := Lib.hid hnx
  rw [e3]
  clear e3 hnx
  have HOK := Lib.hid h
  clear h
  go_enter Try.func38, Try.ntmps38
  go_wp2_with fail
  refine (refid_any _ _ _ _).mono ?_; rintro e w1 ⟨rfl, hb1⟩
  obtain ⟨hA, hs1, hw1⟩ := blk_one hb1
  obtain ⟨⟨a0, a1, a2⟩, _⟩ := blk_cells3 hA
  clear hA hb1
  go_wp2_with fail
  obtain ⟨n, hn⟩ : ∃ n : Nat, z = tz + n := ⟨(z - tz).toNat, by omega⟩
  obtain ⟨s0, s1, s2, s3, s4, s5, _⟩ := Cv.of_tid HOK.out
  have hst : Cv.rf tz tx ty tz = Cv.tid tz tx ty ∧ Cv.rt tz tx ty tz = Cv.tid tz tx ty := by
    have hB : Cv.rB tz tx ty tz = true := by unfold Cv.rB; rw [HOK.out, decide_eq_true (by omega)]; rfl
    have e := Cv.tid_ok HOK.out
    have e1 : Cv.rf tz tx ty tz = Cv.tid tz tx ty := by unfold Cv.rf; rw [if_pos hB, e, show (tz - tz).toNat = 0 by omega]; simp
    refine ⟨e1, ?_⟩
    unfold Cv.rt
    rw [if_pos hB, e1, show (tz - tz).toNat = 0 by omega]
    simp
  have HST := Lib.hid (And.intro hst (And.intro s2 (And.intro s3 s4)))
  have HNZ := Lib.hid hn
  clear hst s0 s1 s2 s3 s4 s5 hn
  go_region
  · go_wp2_with fail
    have hb0 : Below w.heap.size w (((w1.alloc (.cells #[.int .i64 tz, .int .i64 tx, .int .i64 ty] 42)).alloc (.cells #[.int .i64 tz, .int .i64 tx, .int .i64 ty] 42)).drew) := (((hw1.alloc hw1.size _).alloc (by have := hw1.size; simp; omega) _).drew)
    have hP : ((w1.alloc (.cells #[.int .i64 tz, .int .i64 tx, .int .i64 ty] 42)).alloc (.cells #[.int .i64 tz, .int .i64 tx, .int .i64 ty] 42)).heap[w1.heap.size]? = some (.cells #[.int .i64 tz, .int .i64 tx, .int .i64 ty] 42 (0, 0)) := blk_alloc (heap_alloc_new w1 _) _
    have hQ : ((w1.alloc (.cells #[.int .i64 tz, .int .i64 tx, .int .i64 ty] 42)).alloc (.cells #[.int .i64 tz, .int .i64 tx, .int .i64 ty] 42)).heap[w1.heap.size + 1]? = some (.cells #[.int .i64 tz, .int .i64 tx, .int .i64 ty] 42 (0, 0)) := by
      have h := heap_alloc_new (w1.alloc (.cells #[.int .i64 tz, .int .i64 tx, .int .i64 ty] 42)) (.cells #[.int .i64 tz, .int .i64 tx, .int .i64 ty] 42)
      rwa [World.size_alloc] at h
    have HPQ := Lib.hid (And.intro hP hQ)
    clear hP hQ
    go_loopg [42] n (fun gg _ wr => ∃ j : Nat, gg = n - j ∧ j ≤ n ∧ Hid (wr.heap[w1.heap.size]? = some (.cells #[.int .i64 (tz + j), .int .i64 (Cv.ox (Cv.rf tz tx ty (tz + j))), .int .i64 (Cv.oy (Cv.rf tz tx ty (tz + j)))] 42 (0, 0))) ∧ Hid (wr.heap[w1.heap.size + 1]? = some (.cells #[.int .i64 (tz + j), .int .i64 (Cv.ox (Cv.rt tz tx ty (tz + j))), .int .i64 (Cv.oy (Cv.rt tz tx ty (tz + j)))] 42 (0, 0))) ∧ Below w.heap.size w wr)
    case atStart =>
      obtain ⟨⟨e1, e2⟩, e3, e4, e5⟩ := HST.out
      refine ⟨0, by omega, by omega, ?_, ?_, hb0⟩
      · rw [show tz + ((0 : Nat) : Int) = tz by omega, e1, e4, e5]; exact HPQ.out.1
      · rw [show tz + ((0 : Nat) : Int) = tz by omega, e2, e4, e5]; exact HPQ.out.2
    case round =>
      obtain ⟨j, hg, hj, hF, hL, hbl⟩ := hrel
      have HG := Lib.hid hg
      clear hg hb0 HPQ a0 a1 a2
      have hzn := HNZ.out
      obtain ⟨⟨r0, r1, r2, r3⟩, z1, z2, hnext⟩ := HX.out (tz + j) (by omega) (by omega)
      obtain ⟨t1, t2, _⟩ := Cv.tid_of r0 r1
      obtain ⟨v1, v2, _⟩ := Cv.tid_of r2 r3
      rw [z1] at t1 t2
      rw [z2] at v1 v2
      obtain ⟨U, hU⟩ : ∃ U : Int, U = tz + j := ⟨_, rfl⟩
      obtain ⟨X1, hX1⟩ : ∃ x, x = Cv.ox (Cv.rf tz tx ty (tz + j)) := ⟨_, rfl⟩
      obtain ⟨Y1, hY1⟩ : ∃ x, x = Cv.oy (Cv.rf tz tx ty (tz + j)) := ⟨_, rfl⟩
      obtain ⟨X2, hX2⟩ : ∃ x, x = Cv.ox (Cv.rt tz tx ty (tz + j)) := ⟨_, rfl⟩
      obtain ⟨Y2, hY2⟩ : ∃ x, x = Cv.oy (Cv.rt tz tx ty (tz + j)) := ⟨_, rfl⟩
      rw [← hX1, ← hY1] at hF t1 t2 hnext
      rw [← hX2, ← hY2] at hL v1 v2 hnext
      rw [← hU] at hF hL t1 t2 v1 v2 hnext
      obtain ⟨⟨a0, a1, a2⟩, fz0, fz1, fz2⟩ := blk_cells3 hF.out
      obtain ⟨⟨b0, b1, b2⟩, lz0, lz1, lz2⟩ := blk_cells3 hL.out
      by_cases c : j < n
      · have hu26 : U < 26 := by omega
        have hUz : U < z := by omega
        obtain ⟨n1, n2⟩ := hnext hu26
        have hdn : ∀ X Y : Int, Cv.okB U X Y = true → Cv.dl U X Y = Cv.tls (Cv.rf U X Y (U + 1)) 4 ∧ Cv.de U X Y = 0 := by
          intro X Y h
          exact ⟨by unfold Cv.dl Cv.dB; rw [h, decide_eq_true hu26]; rfl, by unfold Cv.de; rw [h, if_pos rfl, if_pos hu26]⟩
        have hd1 := fun w => refdown_any U X1 Y1 w
        have hd2 := fun w => refdown_any U X2 Y2 w
        rw [(hdn X1 Y1 t1).1, (hdn X1 Y1 t1).2, n1] at hd1
        rw [(hdn X2 Y2 v1).1, (hdn X2 Y2 v1).2] at hd2
        have HD1 := Lib.hid hd1
        have HD2 := Lib.hid hd2
        have HN2 := Lib.hid n2
        have HUU := Lib.hid hU
        obtain ⟨⟨q0, q1, q2, q3⟩, y1, y2, _⟩ := HX.out (U + 1) (by omega) (by omega)
        have HY := Lib.hid (And.intro y1 y2)
        clear hdn hd1 hd2 n1 n2 hnext t1 t2 v1 v2 hX1 hY1 hX2 hY2 hU hzn z1 z2 y1 y2
        go_wp2_with fail
        refine (HD1.out _).mono ?_
        intro e w2 h2
        obtain ⟨v, he, hT, hb2⟩ := h2
        obtain ⟨g1, cap1, hv, _, _⟩ := World.ownsRow.form hT (by rw [Cv.tls_len]; omega)
        rw [Cv.tls_len] at hv
        rw [hv] at he hT
        subst he
        have hw2 := bthen2 hb2 hbl
        have hF2 := Lib.hid (blk_keep2 hb2 hF.out)
        have hL2 := Lib.hid (blk_keep2 hb2 hL.out)
        have hT2 := Lib.hid hT
        clear hv hT hb2 hF hL hbl a0 a1 a2 fz0 fz1 fz2 b0 b1 b2 lz0 lz1 lz2
        obtain ⟨⟨b0, b1, b2⟩, lz0, lz1, lz2⟩ := blk_cells3 hL2.out
        go_wp2_with fail
        refine (HD2.out _).mono ?_
        intro e w3 h3
        obtain ⟨v, he, hT, hb3⟩ := h3
        obtain ⟨g2, cap2, hv, _, _⟩ := World.ownsRow.form hT (by rw [Cv.tls_len]; omega)
        rw [Cv.tls_len] at hv
        rw [hv] at he hT
        subst he
        have hw3 := bthen2 hb3 hw2
        have hF3 := Lib.hid (blk_keep2 hb3 hF2.out)
        have hL3 := Lib.hid (blk_keep2 hb3 hL2.out)
        obtain ⟨k0, k1, k2⟩ := tls_cell (own_keep2 hb3 hT2.out) 0 (by omega)
        obtain ⟨m0, m1, m2⟩ := tls_cell hT 3 (by omega)
        rw [show Cv.rf U X2 Y2 (U + 1) + ((3 : Nat) : Int) = Cv.rt tz tx ty (U + 1) by rw [← HN2.out]; rfl] at m0 m1 m2
        rw [show Cv.rf tz tx ty (U + 1) + ((0 : Nat) : Int) = Cv.rf tz tx ty (U + 1) by omega] at k0 k1 k2
        rw [HY.out.1] at k0
        rw [HY.out.2] at m0
        simp only [Nat.zero_mul, Nat.zero_add, Nat.reduceMul, Nat.reduceAdd] at k0 k1 k2 m0 m1 m2
        clear hv hT hb3 hF2 hL2 hT2 hw2 b0 b1 b2 lz0 lz1 lz2
        obtain ⟨⟨a0, a1, a2⟩, fz0, fz1, fz2⟩ := blk_cells3 hF3.out
        obtain ⟨⟨b0, b1, b2⟩, lz0, lz1, lz2⟩ := blk_cells3 hL3.out
        go_wp2_with fail
        go_region
        go_wp2_with fail
        have eU : U + 1 = tz + ((j + 1 : Nat) : Int) := by have := HUU.out; omega
        have hF4 : ((((((w3.setCell ⟨w1.heap.size, 0, none⟩ (.int .i64 (U + 1))).setCell ⟨w1.heap.size, 1, none⟩ (.int .i64 (Cv.ox (Cv.rf tz tx ty (U + 1))))).setCell ⟨w1.heap.size, 2, none⟩ (.int .i64 (Cv.oy (Cv.rf tz tx ty (U + 1))))).setCell ⟨w1.heap.size + 1, 0, none⟩ (.int .i64 (U + 1))).setCell ⟨w1.heap.size + 1, 1, none⟩ (.int .i64 (Cv.ox (Cv.rt tz tx ty (U + 1))))).setCell ⟨w1.heap.size + 1, 2, none⟩ (.int .i64 (Cv.oy (Cv.rt tz tx ty (U + 1))))).drew.heap[w1.heap.size]? = some (.cells #[.int .i64 (tz + ((j + 1 : Nat) : Int)), .int .i64 (Cv.ox (Cv.rf tz tx ty (tz + ((j + 1 : Nat) : Int)))), .int .i64 (Cv.oy (Cv.rf tz tx ty (tz + ((j + 1 : Nat) : Int))))] 42 (0, 0)) := by
          rw [← eU, heap_drew]; exact blk_far3 (blk_set3 hF3.out) (by omega)
        have hL4 : ((((((w3.setCell ⟨w1.heap.size, 0, none⟩ (.int .i64 (U + 1))).setCell ⟨w1.heap.size, 1, none⟩ (.int .i64 (Cv.ox (Cv.rf tz tx ty (U + 1))))).setCell ⟨w1.heap.size, 2, none⟩ (.int .i64 (Cv.oy (Cv.rf tz tx ty (U + 1))))).setCell ⟨w1.heap.size + 1, 0, none⟩ (.int .i64 (U + 1))).setCell ⟨w1.heap.size + 1, 1, none⟩ (.int .i64 (Cv.ox (Cv.rt tz tx ty (U + 1))))).setCell ⟨w1.heap.size + 1, 2, none⟩ (.int .i64 (Cv.oy (Cv.rt tz tx ty (U + 1))))).drew.heap[w1.heap.size + 1]? = some (.cells #[.int .i64 (tz + ((j + 1 : Nat) : Int)), .int .i64 (Cv.ox (Cv.rt tz tx ty (tz + ((j + 1 : Nat) : Int)))), .int .i64 (Cv.oy (Cv.rt tz tx ty (tz + ((j + 1 : Nat) : Int))))] 42 (0, 0)) := by
          rw [← eU, heap_drew]; exact blk_set3 (blk_far3 hL3.out (by omega))
        have hsz := hw1.size
        have hsl := hs1
        have hw4 : Below w.heap.size w ((((((w3.setCell ⟨w1.heap.size, 0, none⟩ (.int .i64 (U + 1))).setCell ⟨w1.heap.size, 1, none⟩ (.int .i64 (Cv.ox (Cv.rf tz tx ty (U + 1))))).setCell ⟨w1.heap.size, 2, none⟩ (.int .i64 (Cv.oy (Cv.rf tz tx ty (U + 1))))).setCell ⟨w1.heap.size + 1, 0, none⟩ (.int .i64 (U + 1))).setCell ⟨w1.heap.size + 1, 1, none⟩ (.int .i64 (Cv.ox (Cv.rt tz tx ty (U + 1))))).setCell ⟨w1.heap.size + 1, 2, none⟩ (.int .i64 (Cv.oy (Cv.rt tz tx ty (U + 1))))).drew :=
          ((((((hw3.setCell (by simp; omega) _).setCell (by simp; omega) _).setCell (by simp; omega) _).setCell (by simp; omega) _).setCell (by simp; omega) _).setCell (by simp; omega) _).drew
        clear a0 a1 a2 fz0 fz1 fz2 b0 b1 b2 lz0 lz1 lz2 k0 k1 k2 m0 m1 m2 hF3 hL3 hw3
        go_roundg (n - (j + 1))
        case measure => have := HG.out; omega
        case rel =>
          refine ⟨j + 1, rfl, by omega, ?_, ?_, hw4⟩
          · clear hL4 hw4; exact Lib.hid hF4
          · clear hF4 hw4; exact Lib.hid hL4
      · obtain rfl : U = z := by omega
        clear hU hzn hnext hX1 hX2 hY1 hY2
        have hpe1 := Cv.pe_ok t1
        have hpe2 := Cv.pe_ok v1
        go_wp2_with fail
        refine (refid_any _ _ _ _).mono ?_; rintro e w4 ⟨rfl, hb4⟩
        have hw4 := bthen hbl hb4
        have hL4 := Lib.hid (blk_keep hL.out hb4)
        clear a0 a1 a2 fz0 fz1 fz2 b0 b1 b2 lz0 lz1 lz2 hb4 hbl hF hL
        obtain ⟨⟨b0, b1, b2⟩, lz0, lz1, lz2⟩ := blk_cells3 hL4.out
        go_wp2_with fail
        refine (refid_any _ _ _ _).mono ?_; rintro e w5 ⟨rfl, hb5⟩
        have hw5 := bthen hw4 hb5
        go_wp2_with fail
        go_ret3
        exact ⟨rfl, hw5⟩
  · go_wp2_with fail
    have hb0 : Below w.heap.size w (((w1.alloc (.cells #[.int .i64 tz, .int .i64 tx, .int .i64 ty] 42)).alloc (.cells #[.int .i64 tz, .int .i64 tx, .int .i64 ty] 42)).drew) := (((hw1.alloc hw1.size _).alloc (by have := hw1.size; simp; omega) _).drew)
    have hP : ((w1.alloc (.cells #[.int .i64 tz, .int .i64 tx, .int .i64 ty] 42)).alloc (.cells #[.int .i64 tz, .int .i64 tx, .int .i64 ty] 42)).heap[w1.heap.size]? = some (.cells #[.int .i64 tz, .int .i64 tx, .int .i64 ty] 42 (0, 0)) := blk_alloc (heap_alloc_new w1 _) _
    have hQ : ((w1.alloc (.cells #[.int .i64 tz, .int .i64 tx, .int .i64 ty] 42)).alloc (.cells #[.int .i64 tz, .int .i64 tx, .int .i64 ty] 42)).heap[w1.heap.size + 1]? = some (.cells #[.int .i64 tz, .int .i64 tx, .int .i64 ty] 42 (0, 0)) := by
      have h := heap_alloc_new (w1.alloc (.cells #[.int .i64 tz, .int .i64 tx, .int .i64 ty] 42)) (.cells #[.int .i64 tz, .int .i64 tx, .int .i64 ty] 42)
      rwa [World.size_alloc] at h
    have HPQ := Lib.hid (And.intro hP hQ)
    clear hP hQ
    go_loopg [42] n (fun gg _ wr => ∃ j : Nat, gg = n - j ∧ j ≤ n ∧ Hid (wr.heap[w1.heap.size + 1]? = some (.cells #[.int .i64 (tz + j), .int .i64 (Cv.ox (Cv.rf tz tx ty (tz + j))), .int .i64 (Cv.oy (Cv.rf tz tx ty (tz + j)))] 42 (0, 0))) ∧ Hid (wr.heap[w1.heap.size]? = some (.cells #[.int .i64 (tz + j), .int .i64 (Cv.ox (Cv.rt tz tx ty (tz + j))), .int .i64 (Cv.oy (Cv.rt tz tx ty (tz + j)))] 42 (0, 0))) ∧ Below w.heap.size w wr)
    case atStart =>
      obtain ⟨⟨e1, e2⟩, e3, e4, e5⟩ := HST.out
      refine ⟨0, by omega, by omega, ?_, ?_, hb0⟩
      · rw [show tz + ((0 : Nat) : Int) = tz by omega, e1, e4, e5]; exact HPQ.out.2
      · rw [show tz + ((0 : Nat) : Int) = tz by omega, e2, e4, e5]; exact HPQ.out.1
    case round =>
      obtain ⟨j, hg, hj, hF, hL, hbl⟩ := hrel
      have HG := Lib.hid hg
      clear hg hb0 HPQ a0 a1 a2
      have hzn := HNZ.out
      obtain ⟨⟨r0, r1, r2, r3⟩, z1, z2, hnext⟩ := HX.out (tz + j) (by omega) (by omega)
      obtain ⟨t1, t2, _⟩ := Cv.tid_of r0 r1
      obtain ⟨v1, v2, _⟩ := Cv.tid_of r2 r3
      rw [z1] at t1 t2
      rw [z2] at v1 v2
      obtain ⟨U, hU⟩ : ∃ U : Int, U = tz + j := ⟨_, rfl⟩
      obtain ⟨X1, hX1⟩ : ∃ x, x = Cv.ox (Cv.rf tz tx ty (tz + j)) := ⟨_, rfl⟩
      obtain ⟨Y1, hY1⟩ : ∃ x, x = Cv.oy (Cv.rf tz tx ty (tz + j)) := ⟨_, rfl⟩
      obtain ⟨X2, hX2⟩ : ∃ x, x = Cv.ox (Cv.rt tz tx ty (tz + j)) := ⟨_, rfl⟩
      obtain ⟨Y2, hY2⟩ : ∃ x, x = Cv.oy (Cv.rt tz tx ty (tz + j)) := ⟨_, rfl⟩
      rw [← hX1, ← hY1] at hF t1 t2 hnext
      rw [← hX2, ← hY2] at hL v1 v2 hnext
      rw [← hU] at hF hL t1 t2 v1 v2 hnext
      obtain ⟨⟨a0, a1, a2⟩, fz0, fz1, fz2⟩ := blk_cells3 hF.out
      obtain ⟨⟨b0, b1, b2⟩, lz0, lz1, lz2⟩ := blk_cells3 hL.out
      by_cases c : j < n
      · have hu26 : U < 26 := by omega
        have hUz : U < z := by omega
        obtain ⟨n1, n2⟩ := hnext hu26
        have hdn : ∀ X Y : Int, Cv.okB U X Y = true → Cv.dl U X Y = Cv.tls (Cv.rf U X Y (U + 1)) 4 ∧ Cv.de U X Y = 0 := by
          intro X Y h
          exact ⟨by unfold Cv.dl Cv.dB; rw [h, decide_eq_true hu26]; rfl, by unfold Cv.de; rw [h, if_pos rfl, if_pos hu26]⟩
        have hd1 := fun w => refdown_any U X1 Y1 w
        have hd2 := fun w => refdown_any U X2 Y2 w
        rw [(hdn X1 Y1 t1).1, (hdn X1 Y1 t1).2, n1] at hd1
        rw [(hdn X2 Y2 v1).1, (hdn X2 Y2 v1).2] at hd2
        have HD1 := Lib.hid hd1
        have HD2 := Lib.hid hd2
        have HN2 := Lib.hid n2
        have HUU := Lib.hid hU
        obtain ⟨⟨q0, q1, q2, q3⟩, y1, y2, _⟩ := HX.out (U + 1) (by omega) (by omega)
        have HY := Lib.hid (And.intro y1 y2)
        clear hdn hd1 hd2 n1 n2 hnext t1 t2 v1 v2 hX1 hY1 hX2 hY2 hU hzn z1 z2 y1 y2
        go_wp2_with fail
        refine (HD1.out _).mono ?_
        intro e w2 h2
        obtain ⟨v, he, hT, hb2⟩ := h2
        obtain ⟨g1, cap1, hv, _, _⟩ := World.ownsRow.form hT (by rw [Cv.tls_len]; omega)
        rw [Cv.tls_len] at hv
        rw [hv] at he hT
        subst he
        have hw2 := bthen2 hb2 hbl
        have hF2 := Lib.hid (blk_keep2 hb2 hF.out)
        have hL2 := Lib.hid (blk_keep2 hb2 hL.out)
        have hT2 := Lib.hid hT
        clear hv hT hb2 hF hL hbl a0 a1 a2 fz0 fz1 fz2 b0 b1 b2 lz0 lz1 lz2
        obtain ⟨⟨b0, b1, b2⟩, lz0, lz1, lz2⟩ := blk_cells3 hL2.out
        go_wp2_with fail
        refine (HD2.out _).mono ?_
        intro e w3 h3
        obtain ⟨v, he, hT, hb3⟩ := h3
        obtain ⟨g2, cap2, hv, _, _⟩ := World.ownsRow.form hT (by rw [Cv.tls_len]; omega)
        rw [Cv.tls_len] at hv
        rw [hv] at he hT
        subst he
        have hw3 := bthen2 hb3 hw2
        have hF3 := Lib.hid (blk_keep2 hb3 hF2.out)
        have hL3 := Lib.hid (blk_keep2 hb3 hL2.out)
        obtain ⟨k0, k1, k2⟩ := tls_cell (own_keep2 hb3 hT2.out) 0 (by omega)
        obtain ⟨m0, m1, m2⟩ := tls_cell hT 3 (by omega)
        rw [show Cv.rf U X2 Y2 (U + 1) + ((3 : Nat) : Int) = Cv.rt tz tx ty (U + 1) by rw [← HN2.out]; rfl] at m0 m1 m2
        rw [show Cv.rf tz tx ty (U + 1) + ((0 : Nat) : Int) = Cv.rf tz tx ty (U + 1) by omega] at k0 k1 k2
        rw [HY.out.1] at k0
        rw [HY.out.2] at m0
        simp only [Nat.zero_mul, Nat.zero_add, Nat.reduceMul, Nat.reduceAdd] at k0 k1 k2 m0 m1 m2
        clear hv hT hb3 hF2 hL2 hT2 hw2 b0 b1 b2 lz0 lz1 lz2
        obtain ⟨⟨a0, a1, a2⟩, fz0, fz1, fz2⟩ := blk_cells3 hF3.out
        obtain ⟨⟨b0, b1, b2⟩, lz0, lz1, lz2⟩ := blk_cells3 hL3.out
        go_wp2_with fail
        go_region
        go_wp2_with fail
        have eU : U + 1 = tz + ((j + 1 : Nat) : Int) := by have := HUU.out; omega
        have hF4 : ((((((w3.setCell ⟨w1.heap.size + 1, 0, none⟩ (.int .i64 (U + 1))).setCell ⟨w1.heap.size + 1, 1, none⟩ (.int .i64 (Cv.ox (Cv.rf tz tx ty (U + 1))))).setCell ⟨w1.heap.size + 1, 2, none⟩ (.int .i64 (Cv.oy (Cv.rf tz tx ty (U + 1))))).setCell ⟨w1.heap.size, 0, none⟩ (.int .i64 (U + 1))).setCell ⟨w1.heap.size, 1, none⟩ (.int .i64 (Cv.ox (Cv.rt tz tx ty (U + 1))))).setCell ⟨w1.heap.size, 2, none⟩ (.int .i64 (Cv.oy (Cv.rt tz tx ty (U + 1))))).drew.heap[w1.heap.size + 1]? = some (.cells #[.int .i64 (tz + ((j + 1 : Nat) : Int)), .int .i64 (Cv.ox (Cv.rf tz tx ty (tz + ((j + 1 : Nat) : Int)))), .int .i64 (Cv.oy (Cv.rf tz tx ty (tz + ((j + 1 : Nat) : Int))))] 42 (0, 0)) := by
          rw [← eU, heap_drew]; exact blk_far3 (blk_set3 hF3.out) (by omega)
        have hL4 : ((((((w3.setCell ⟨w1.heap.size + 1, 0, none⟩ (.int .i64 (U + 1))).setCell ⟨w1.heap.size + 1, 1, none⟩ (.int .i64 (Cv.ox (Cv.rf tz tx ty (U + 1))))).setCell ⟨w1.heap.size + 1, 2, none⟩ (.int .i64 (Cv.oy (Cv.rf tz tx ty (U + 1))))).setCell ⟨w1.heap.size, 0, none⟩ (.int .i64 (U + 1))).setCell ⟨w1.heap.size, 1, none⟩ (.int .i64 (Cv.ox (Cv.rt tz tx ty (U + 1))))).setCell ⟨w1.heap.size, 2, none⟩ (.int .i64 (Cv.oy (Cv.rt tz tx ty (U + 1))))).drew.heap[w1.heap.size]? = some (.cells #[.int .i64 (tz + ((j + 1 : Nat) : Int)), .int .i64 (Cv.ox (Cv.rt tz tx ty (tz + ((j + 1 : Nat) : Int)))), .int .i64 (Cv.oy (Cv.rt tz tx ty (tz + ((j + 1 : Nat) : Int))))] 42 (0, 0)) := by
          rw [← eU, heap_drew]; exact blk_set3 (blk_far3 hL3.out (by omega))
        have hsz := hw1.size
        have hsl := hs1
        have hw4 : Below w.heap.size w ((((((w3.setCell ⟨w1.heap.size + 1, 0, none⟩ (.int .i64 (U + 1))).setCell ⟨w1.heap.size + 1, 1, none⟩ (.int .i64 (Cv.ox (Cv.rf tz tx ty (U + 1))))).setCell ⟨w1.heap.size + 1, 2, none⟩ (.int .i64 (Cv.oy (Cv.rf tz tx ty (U + 1))))).setCell ⟨w1.heap.size, 0, none⟩ (.int .i64 (U + 1))).setCell ⟨w1.heap.size, 1, none⟩ (.int .i64 (Cv.ox (Cv.rt tz tx ty (U + 1))))).setCell ⟨w1.heap.size, 2, none⟩ (.int .i64 (Cv.oy (Cv.rt tz tx ty (U + 1))))).drew :=
          ((((((hw3.setCell (by simp; omega) _).setCell (by simp; omega) _).setCell (by simp; omega) _).setCell (by simp; omega) _).setCell (by simp; omega) _).setCell (by simp; omega) _).drew
        clear a0 a1 a2 fz0 fz1 fz2 b0 b1 b2 lz0 lz1 lz2 k0 k1 k2 m0 m1 m2 hF3 hL3 hw3
        go_roundg (n - (j + 1))
        case measure => have := HG.out; omega
        case rel =>
          refine ⟨j + 1, rfl, by omega, ?_, ?_, hw4⟩
          · clear hL4 hw4; exact Lib.hid hF4
          · clear hF4 hw4; exact Lib.hid hL4
      · obtain rfl : U = z := by omega
        clear hU hzn hnext hX1 hX2 hY1 hY2
        have hpe1 := Cv.pe_ok t1
        have hpe2 := Cv.pe_ok v1
        go_wp2_with fail
        refine (refid_any _ _ _ _).mono ?_; rintro e w4 ⟨rfl, hb4⟩
        have hw4 := bthen hbl hb4
        have hL4 := Lib.hid (blk_keep hL.out hb4)
        clear a0 a1 a2 fz0 fz1 fz2 b0 b1 b2 lz0 lz1 lz2 hb4 hbl hF hL
        obtain ⟨⟨b0, b1, b2⟩, lz0, lz1, lz2⟩ := blk_cells3 hL4.out
        go_wp2_with fail
        refine (refid_any _ _ _ _).mono ?_; rintro e w5 ⟨rfl, hb5⟩
        have hw5 := bthen hw4 hb5
        go_wp2_with fail
        go_ret3
        exact ⟨rfl, hw5⟩


theorem refrange_any (tz tx ty z : Int) (w : World) :
    Calls Try.prog 38 #[.agg #[.int .i64 tz, .int .i64 tx, .int .i64 ty], .int .i64 z] w fun e w' => e = .returned (.tuple #[.int .u64 (Cv.rf tz tx ty z), .int .u64 (Cv.rt tz tx ty z), .int .i64 (Cv.re tz tx ty z)]) ∧ Below w.heap.size w w' := by
  rcases Bool.eq_false_or_eq_true (Cv.rB tz tx ty z) with h | h
  · obtain ⟨h1, h2⟩ : Cv.okB tz tx ty = true ∧ (tz ≤ z ∧ z ≤ 26) := by
      unfold Cv.rB at h
      simpa using h
    exact refrange_ok _ _ _ _ w h1 h2.1 h2.2
  · exact refrange_not _ _ _ _ w h

end Go.Proofs.Ytdipincjginmcaa
