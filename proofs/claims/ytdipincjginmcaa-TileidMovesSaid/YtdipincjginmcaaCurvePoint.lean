/- The walk of curve.Point: the tile of any place, or why there is none. -/
import Derived.Test.YtdipincjginmcaaCurvePlaceOk
import Derived.Test.YtdipincjginmcaaRefCurve
namespace Go.Proofs.Ytdipincjginmcaa
open Go.RowKit

theorem u64bit2 (a m : Nat) (ha : a < 18446744073709551616) : bits .and .u64 ((a : Int) / 2 ^ m) 3 = ((a / 2 ^ m % 4 : Nat) : Int) := by
  have h : a / 2 ^ m < 18446744073709551616 := Nat.lt_of_le_of_lt (Nat.div_le_self _ _) ha
  have e : ((a : Int) / 2 ^ m) = ((a / 2 ^ m : Nat) : Int) := by simp
  have h1 := u64_and_nat (a / 2 ^ m) 3 h (by omega)
  rw [nat_mask2] at h1
  rw [e]
  exact h1
theorem u64or0 (x : Nat) (hx : x < 18446744073709551616) : bits .or .u64 (x : Int) 0 = (x : Int) := by
  have h := u64_or_nat x 0 hx (by omega)
  rw [Nat.or_zero] at h
  exact h
theorem u64orpow (x k : Nat) (hk : k ≤ 26) (hx : x < 2 ^ k) : bits .or .u64 (x : Int) (IntKind.u64.wrap ((2 : Int) ^ k)) = ((x + 2 ^ k : Nat) : Int) := by
  have h2 := two26 k hk
  rw [u64pow k (by omega), u64_or_nat _ _ (by omega) (by omega), Nat.or_comm, nat_join k (2 ^ k) x (Nat.mod_self _) hx, Nat.add_comm]

theorem point_arg (z d : Int) (h : ¬ (0 ≤ z ∧ z ≤ 26)) (w : World) :
    Calls Try.prog 20 #[.int .i64 z, .int .u64 d] w fun e w' => e = .returned (.tuple #[.int .i64 0, .int .i64 0, .int .i64 2]) ∧ w = w' := by
  have hs : Cv.side z = 0 := by unfold Cv.side; rw [if_neg h]
  go_enter Try.func20, Try.ntmps20
  go_wp2_with (go_at_call 17; refine (side_any _ _).mono ?_; rintro e w' ⟨rfl, rfl⟩)
  go_ret3
  exact ⟨rfl, rfl⟩

theorem point_out (z d : Nat) (h1 : z ≤ 26) (h : 4 ^ z ≤ d) (w : World) :
    Calls Try.prog 20 #[.int .i64 z, .int .u64 d] w fun e w' => e = .returned (.tuple #[.int .i64 0, .int .i64 0, .int .i64 8]) ∧ w = w' := by
  have hs : 0 < Cv.side z := by unfold Cv.side; rw [if_pos (by omega)]; have := Cv.pow_pos2 z; simp only [Int.toNat_natCast]; omega
  have e : (d : Int) / 2 ^ (2 * z) = ((d / 2 ^ (2 * z) : Nat) : Int) := by simp
  have hq : 1 ≤ d / 2 ^ (2 * z) := by rw [Nat.pow_mul]; exact (Nat.one_le_div_iff (Cv.pow_pos4 z)).2 h
  have ht : ((d : Int) / 2 ^ (2 * z) != 0) = true := by rw [e, bne_iff_ne]; omega
  clear e hq h
  go_enter Try.func20, Try.ntmps20
  go_wp2_with (go_at_call 17; refine (side_any _ _).mono ?_; rintro e w' ⟨rfl, rfl⟩)
  go_ret3
  exact ⟨rfl, rfl⟩

/-- a round's numbers: one digit of the way back -/
theorem Cv.point_round (k d p : Nat) (sw mi : Bool) (hp : p = d / 2 ^ (2 * k) % 4) (a b : Nat) (ha : a = (Cv.point k d).1) (hb : b = (Cv.point k d).2)
    (hs : (p = 0 ∧ sw = true ∧ mi = false) ∨ (p = 1 ∧ sw = false ∧ mi = false) ∨ (p = 2 ∧ sw = false ∧ mi = false) ∨ (p = 3 ∧ sw = true ∧ mi = true)) :
    (Cv.turn sw mi k a b).1 < 2 ^ k ∧ (Cv.turn sw mi k a b).2 < 2 ^ k ∧
      (Cv.turn sw mi k a b).1 + (if p = 2 ∨ p = 3 then 2 ^ k else 0) = (Cv.point (k + 1) d).1 ∧ (Cv.turn sw mi k a b).2 + (if p = 1 ∨ p = 2 then 2 ^ k else 0) = (Cv.point (k + 1) d).2 := by
  have hl := Cv.point_lt k d
  rw [← ha, ← hb] at hl
  have h2 := Cv.pow_pos2 k
  rw [Nat.pow_mul] at hp
  have hs2 : Cv.point (k + 1) d = Cv.lay k p a b := by rw [Cv.point, Cv.point_mod, ← hp, ha, hb]
  have ma : a % 2 ^ k = a := Nat.mod_eq_of_lt hl.1
  have mb : b % 2 ^ k = b := Nat.mod_eq_of_lt hl.2
  rw [hs2]
  clear hs2 hp ha hb
  rcases hs with ⟨rfl, rfl, rfl⟩ | ⟨rfl, rfl, rfl⟩ | ⟨rfl, rfl, rfl⟩ | ⟨rfl, rfl, rfl⟩ <;> simp [Cv.turn, Cv.lay, ma, mb] <;> omega

theorem point_or0 (x k r : Nat) (hk : k ≤ 26) (hx : x < 2 ^ k) (h : x + 0 = r) : bits .or .u64 (x : Int) 0 = (r : Int) := by
  have := two26 k hk
  rw [u64or0 x (by omega), ← h, Nat.add_zero]
theorem point_or1 (x k r : Nat) (hk : k ≤ 26) (hx : x < 2 ^ k) (h : x + 2 ^ k = r) : bits .or .u64 (x : Int) (IntKind.u64.wrap ((2 : Int) ^ k)) = (r : Int) := by
  rw [u64orpow x k hk hx, h]

theorem world_round2 {w w1 wr w3 : World} {o : Obj} {cs : Array Value} {t : TypeId} (hbl : Below w.heap.size w wr) (hsz : w1.heap.size < wr.heap.size) (hb3 : Below (wr.alloc o).heap.size (wr.alloc o) w3)
    (h : wr.heap[w1.heap.size]? = some (.cells cs t (0, 0))) (n : Nat) : Below w.heap.size w (w3.drewN n) ∧ w1.heap.size < (w3.drewN n).heap.size ∧ (w3.drewN n).heap[w1.heap.size]? = some (.cells cs t (0, 0)) := by
  have s3 : (wr.alloc o).heap.size ≤ w3.heap.size := hb3.size
  have s1 : (wr.alloc o).heap.size = wr.heap.size + 1 := by simp
  have s0 := hbl.size
  have h1 : Below w.heap.size w w3 := (hbl.alloc s0 o).trans (hb3.mono (by omega))
  have h2 : w3.heap[w1.heap.size]? = some (.cells cs t (0, 0)) := (hb3.block _ (by omega)).trans ((Below.heap_alloc wr o _ hsz).trans h)
  have h3 : w1.heap.size < w3.heap.size := by omega
  exact ⟨⟨h1.os, h1.tape, h1.output, h1.size, h1.block⟩, h3, h2⟩

set_option maxHeartbeats 1600000 in
theorem point_ok (z d : Nat) (hz : z ≤ 26) (hd : d < 4 ^ z) (w : World) :
    Calls Try.prog 20 #[.int .i64 z, .int .u64 d] w fun e w' => e = .returned (.tuple #[.int .i64 (Cv.point z d).1, .int .i64 (Cv.point z d).2, .int .i64 0]) ∧ Below w.heap.size w w' := by
  have hs : 0 < Cv.side z := by unfold Cv.side; rw [if_pos (by omega)]; have := Cv.pow_pos2 z; simp only [Int.toNat_natCast]; omega
  have hdl : d < 18446744073709551616 := by have := four26 z hz; omega
  have e : (d : Int) / 2 ^ (2 * z) = ((d / 2 ^ (2 * z) : Nat) : Int) := by simp
  have hq : d / 2 ^ (2 * z) = 0 := by rw [Nat.pow_mul]; exact Nat.div_eq_of_lt hd
  have ht : ((d : Int) / 2 ^ (2 * z) != 0) = false := by rw [e, hq]; rfl
  clear e hq hd
  go_enter Try.func20, Try.ntmps20
  go_wp2_with (first | (go_at_call 17; refine (side_any _ _).mono ?_; rintro e w' ⟨rfl, rfl⟩) | (go_at_call 42; refine (quarters_any _).mono ?_; rintro e w1 ⟨rfl, hb1⟩))
  clear hs ht
  have h0 : (w1.alloc (.cells Cv.qcells 74)).heap[w1.heap.size]? = some (.cells Cv.qcells 74 (0, 0)) := heap_alloc_new _ _
  have hb0 : Below w.heap.size w (w1.alloc (.cells Cv.qcells 74)) := hb1.alloc hb1.size _
  have hsz0 : w1.heap.size < (w1.alloc (.cells Cv.qcells 74)).heap.size := by simp
  go_loopw [9, 10, 26] (fun ca cb ci wr => ∃ k a b : Nat, k ≤ z ∧ ci = .int .i64 k ∧ ca = .int .u64 a ∧ cb = .int .u64 b ∧ a = (Cv.point k d).1 ∧ b = (Cv.point k d).2 ∧ Below w.heap.size w wr ∧ w1.heap.size < wr.heap.size ∧ wr.heap[w1.heap.size]? = some (.cells Cv.qcells 74 (0, 0))) (fun _ _ ci _ => z - (intOf ci).toNat)
  case atStart => exact ⟨0, 0, 0, Nat.zero_le _, rfl, rfl, rfl, rfl, rfl, hb0, hsz0, h0⟩
  case round =>
    obtain ⟨k, a, b, hk, rfl, rfl, rfl, ha, hb, hbl, hsz, hblk⟩ := hrel
    have HA := Lib.hid ha
    have HB := Lib.hid hb
    have HK := Lib.hid hblk
    have ha63 : a < 67108864 := by have := two26 k (by omega); have := Cv.point_lt k d; omega
    have hb63 : b < 67108864 := by have := two26 k (by omega); have := Cv.point_lt k d; omega
    clear ha hb h0 hb0 hsz0 hb1
    by_cases hlt : k < z
    · obtain ⟨p, hp⟩ : ∃ p, p = d / 2 ^ (2 * k) % 4 := ⟨_, rfl⟩
      have hX : bits BinOp.and IntKind.u64 ((d : Int) / 2 ^ (2 * k)) 3 = (p : Int) := by rw [hp]; exact u64bit2 d _ hdl
      have hpq : p = 0 ∨ p = 1 ∨ p = 2 ∨ p = 3 := by rw [hp]; omega
      have HP := Lib.hid hp
      clear hp
      rcases hpq with rfl | rfl | rfl | rfl
      · have c0 := cell_of_row wr w1.heap.size 0 _ _ _ hblk
        have c1 := cell_of_row wr w1.heap.size 1 _ _ _ hblk
        have c2 := cell_of_row wr w1.heap.size 2 _ _ _ hblk
        have c3 := cell_of_row wr w1.heap.size 3 _ _ _ hblk
        clear hblk
        go_wp2_with (go_at_call 44; refine (turn_int _ _ _ _ _ _ _ ?c1 ?c2 ?c3 ?c4 ?c5 ?c6 _).mono ?_; (case c1 => omega); (case c2 => omega); (case c3 => omega); (case c4 => omega); (case c5 => omega); (case c6 => omega); rintro e w3 ⟨rfl, hb3⟩)
        have e0 := (hb3.cell (p := ⟨wr.heap.size, 0, none⟩) (by simp))
        have e1 := (hb3.cell (p := ⟨wr.heap.size, 1, none⟩) (by simp))
        have f0 := e0.trans (cell_of_row _ wr.heap.size 0 _ _ _ (heap_alloc_new wr _))
        have f1 := e1.trans (cell_of_row _ wr.heap.size 1 _ _ _ (heap_alloc_new wr _))
        clear e0 e1
        simp at f0 f1
        go_quiet (fail)
        go_wp2_with fail
        have hr := Cv.point_round k d 0 true false HP.out a b HA.out HB.out (by simp)
        have hw := world_round2 hbl hsz hb3 HK.out nq
        exact ⟨⟨k + 1, (Cv.point (k + 1) d).1, (Cv.point (k + 1) d).2, by omega, by go_num, congrArg (Value.int .u64) (point_or0 _ k _ (by omega) hr.1 (by simpa using hr.2.2.1)), congrArg (Value.int .u64) (point_or0 _ k _ (by omega) hr.2.1 (by simpa using hr.2.2.2)), rfl, rfl, hw⟩, by simp [intOf]; omega⟩
      · have c0 := cell_of_row wr w1.heap.size 4 _ _ _ hblk
        have c1 := cell_of_row wr w1.heap.size 5 _ _ _ hblk
        have c2 := cell_of_row wr w1.heap.size 6 _ _ _ hblk
        have c3 := cell_of_row wr w1.heap.size 7 _ _ _ hblk
        clear hblk
        go_wp2_with (go_at_call 44; refine (turn_int _ _ _ _ _ _ _ ?c1 ?c2 ?c3 ?c4 ?c5 ?c6 _).mono ?_; (case c1 => omega); (case c2 => omega); (case c3 => omega); (case c4 => omega); (case c5 => omega); (case c6 => omega); rintro e w3 ⟨rfl, hb3⟩)
        have e0 := (hb3.cell (p := ⟨wr.heap.size, 0, none⟩) (by simp))
        have e1 := (hb3.cell (p := ⟨wr.heap.size, 1, none⟩) (by simp))
        have f0 := e0.trans (cell_of_row _ wr.heap.size 0 _ _ _ (heap_alloc_new wr _))
        have f1 := e1.trans (cell_of_row _ wr.heap.size 1 _ _ _ (heap_alloc_new wr _))
        clear e0 e1
        simp at f0 f1
        go_quiet (fail)
        go_wp2_with fail
        have hr := Cv.point_round k d 1 false false HP.out a b HA.out HB.out (by simp)
        have hw := world_round2 hbl hsz hb3 HK.out nq
        exact ⟨⟨k + 1, (Cv.point (k + 1) d).1, (Cv.point (k + 1) d).2, by omega, by go_num, congrArg (Value.int .u64) (point_or0 _ k _ (by omega) hr.1 (by simpa using hr.2.2.1)), congrArg (Value.int .u64) (point_or1 _ k _ (by omega) hr.2.1 (by simpa using hr.2.2.2)), rfl, rfl, hw⟩, by simp [intOf]; omega⟩
      · have c0 := cell_of_row wr w1.heap.size 8 _ _ _ hblk
        have c1 := cell_of_row wr w1.heap.size 9 _ _ _ hblk
        have c2 := cell_of_row wr w1.heap.size 10 _ _ _ hblk
        have c3 := cell_of_row wr w1.heap.size 11 _ _ _ hblk
        clear hblk
        go_wp2_with (go_at_call 44; refine (turn_int _ _ _ _ _ _ _ ?c1 ?c2 ?c3 ?c4 ?c5 ?c6 _).mono ?_; (case c1 => omega); (case c2 => omega); (case c3 => omega); (case c4 => omega); (case c5 => omega); (case c6 => omega); rintro e w3 ⟨rfl, hb3⟩)
        have e0 := (hb3.cell (p := ⟨wr.heap.size, 0, none⟩) (by simp))
        have e1 := (hb3.cell (p := ⟨wr.heap.size, 1, none⟩) (by simp))
        have f0 := e0.trans (cell_of_row _ wr.heap.size 0 _ _ _ (heap_alloc_new wr _))
        have f1 := e1.trans (cell_of_row _ wr.heap.size 1 _ _ _ (heap_alloc_new wr _))
        clear e0 e1
        simp at f0 f1
        go_quiet (fail)
        go_wp2_with fail
        have hr := Cv.point_round k d 2 false false HP.out a b HA.out HB.out (by simp)
        have hw := world_round2 hbl hsz hb3 HK.out nq
        exact ⟨⟨k + 1, (Cv.point (k + 1) d).1, (Cv.point (k + 1) d).2, by omega, by go_num, congrArg (Value.int .u64) (point_or1 _ k _ (by omega) hr.1 (by simpa using hr.2.2.1)), congrArg (Value.int .u64) (point_or1 _ k _ (by omega) hr.2.1 (by simpa using hr.2.2.2)), rfl, rfl, hw⟩, by simp [intOf]; omega⟩
      · have c0 := cell_of_row wr w1.heap.size 12 _ _ _ hblk
        have c1 := cell_of_row wr w1.heap.size 13 _ _ _ hblk
        have c2 := cell_of_row wr w1.heap.size 14 _ _ _ hblk
        have c3 := cell_of_row wr w1.heap.size 15 _ _ _ hblk
        clear hblk
        go_wp2_with (go_at_call 44; refine (turn_int _ _ _ _ _ _ _ ?c1 ?c2 ?c3 ?c4 ?c5 ?c6 _).mono ?_; (case c1 => omega); (case c2 => omega); (case c3 => omega); (case c4 => omega); (case c5 => omega); (case c6 => omega); rintro e w3 ⟨rfl, hb3⟩)
        have e0 := (hb3.cell (p := ⟨wr.heap.size, 0, none⟩) (by simp))
        have e1 := (hb3.cell (p := ⟨wr.heap.size, 1, none⟩) (by simp))
        have f0 := e0.trans (cell_of_row _ wr.heap.size 0 _ _ _ (heap_alloc_new wr _))
        have f1 := e1.trans (cell_of_row _ wr.heap.size 1 _ _ _ (heap_alloc_new wr _))
        clear e0 e1
        simp at f0 f1
        go_quiet (fail)
        go_wp2_with fail
        have hr := Cv.point_round k d 3 true true HP.out a b HA.out HB.out (by simp)
        have hw := world_round2 hbl hsz hb3 HK.out nq
        exact ⟨⟨k + 1, (Cv.point (k + 1) d).1, (Cv.point (k + 1) d).2, by omega, by go_num, congrArg (Value.int .u64) (point_or1 _ k _ (by omega) hr.1 (by simpa using hr.2.2.1)), congrArg (Value.int .u64) (point_or0 _ k _ (by omega) hr.2.1 (by simpa using hr.2.2.2)), rfl, rfl, hw⟩, by simp [intOf]; omega⟩
    · have hkz : k = z := by omega
      have ea : (a : Int) = ((Cv.point z d).1 : Int) := by rw [HA.out, hkz]
      have eb : (b : Int) = ((Cv.point z d).2 : Int) := by rw [HB.out, hkz]
      have HE := Lib.hid ea
      have HF := Lib.hid eb
      clear ea eb hkz hblk
      go_wp2_with fail
      go_ret3
      exact ⟨ret3 HE.out HF.out rfl, hbl⟩

end Go.Proofs.Ytdipincjginmcaa
