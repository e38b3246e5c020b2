/- The walk of curve.Place at a tile of the square. -/
import Derived.Test.YtdipincjginmcaaDoorCurveWalks
import Derived.Test.YtdipincjginmcaaDoorCurvePlace
namespace Go.Proofs.YtdipincjginmcaaDoor
open Go.RowKit

abbrev Cv.qcells : Array Value := #[.int .u64 0, .int .u64 0, .bool true, .bool false, .int .u64 0, .int .u64 1, .bool false, .bool false, .int .u64 1, .int .u64 1, .bool false, .bool false, .int .u64 1, .int .u64 0, .bool true, .bool true]

theorem u64or4 (d j : Nat) (hd : d < 4503599627370496) (hj : j < 4) : bits .or .u64 (IntKind.u64.wrap ((d : Int) * 4)) (j : Int) = ((d * 4 + j : Nat) : Int) := by
  rw [u64w (by omega) (by omega)]
  have e : ((d : Int) * 4) = ((d * 4 : Nat) : Int) := by omega
  rw [e, u64_or_nat _ _ (by omega) (by omega), nat_join 2 (d * 4) j (by omega) (by omega)]

/-- one digit of the way in: for quarter (p, q) -/
theorem Cv.place_step (n a b p q : Nat) (ha : a < 2 ^ (n + 1)) (hb : b < 2 ^ (n + 1)) (hp : p = a / 2 ^ n % 2) (hq : q = b / 2 ^ n % 2) (sw mi : Bool)
    (hs : (p = 0 ∧ q = 0 ∧ sw = true ∧ mi = false) ∨ (p = 0 ∧ q = 1 ∧ sw = false ∧ mi = false) ∨ (p = 1 ∧ q = 1 ∧ sw = false ∧ mi = false) ∨ (p = 1 ∧ q = 0 ∧ sw = true ∧ mi = true)) :
    Cv.place (n + 1) a b = Cv.num p q * 4 ^ n + Cv.place n (Cv.turn sw mi n a b).1 (Cv.turn sw mi n a b).2 ∧ (Cv.turn sw mi n a b).1 < 2 ^ n ∧ (Cv.turn sw mi n a b).2 < 2 ^ n := by
  have h2 := Cv.two_succ n
  have hpos := Cv.pow_pos2 n
  have hal : a / 2 ^ n < 2 := by rw [Nat.div_lt_iff_lt_mul hpos]; omega
  have hbl : b / 2 ^ n < 2 := by rw [Nat.div_lt_iff_lt_mul hpos]; omega
  have hda := Nat.div_add_mod a (2 ^ n)
  have hdb := Nat.div_add_mod b (2 ^ n)
  have hma := Nat.mod_lt a hpos
  have hmb := Nat.mod_lt b hpos
  rw [Nat.mod_eq_of_lt hal] at hp
  rw [Nat.mod_eq_of_lt hbl] at hq
  rw [← hp] at hda
  rw [← hq] at hdb
  clear hp hq hal hbl
  rw [Cv.place]
  rcases hs with ⟨rfl, rfl, rfl, rfl⟩ | ⟨rfl, rfl, rfl, rfl⟩ | ⟨rfl, rfl, rfl, rfl⟩ | ⟨rfl, rfl, rfl, rfl⟩
  · simp only [Cv.turn, Cv.num, Bool.false_eq_true, ↓reduceIte]
    rw [if_pos (by omega), if_pos (by omega), Nat.mod_eq_of_lt (show a < 2 ^ n by omega), Nat.mod_eq_of_lt (show b < 2 ^ n by omega)]
    omega
  · simp only [Cv.turn, Cv.num, Bool.false_eq_true, ↓reduceIte, Nat.one_ne_zero]
    rw [if_pos (by omega), if_neg (by omega), Nat.mod_eq_of_lt (show a < 2 ^ n by omega), show b % 2 ^ n = b - 2 ^ n by omega]
    omega
  · simp only [Cv.turn, Cv.num, Bool.false_eq_true, ↓reduceIte, Nat.one_ne_zero]
    rw [if_neg (by omega), if_neg (by omega), show a % 2 ^ n = a - 2 ^ n by omega, show b % 2 ^ n = b - 2 ^ n by omega]
    omega
  · simp only [Cv.turn, Cv.num, ↓reduceIte, Nat.one_ne_zero]
    rw [if_neg (by omega), if_pos (by omega), show a % 2 ^ n = a - 2 ^ n by omega, Nat.mod_eq_of_lt (show b < 2 ^ n by omega)]
    omega

theorem Cv.d_lt (z m d r : Nat) (hz : z ≤ 26) (h : d * 4 ^ m + r < 4 ^ z) : d < 4503599627370496 := by
  have h1 := Cv.pow_pos4 m
  have h2 : 4 ^ z ≤ 4 ^ 26 := Nat.pow_le_pow_right (by omega) hz
  have h3 : d * 1 ≤ d * 4 ^ m := Nat.mul_le_mul_left d h1
  have h4 : (4 : Nat) ^ 26 = 4503599627370496 := by decide
  omega

/-- a round's numbers -/
theorem Cv.place_round (z k a b d p q x y : Nat) (sw mi : Bool) (hlt : k < z) (hz : z ≤ 26) (hx : x < 2 ^ z) (hy : y < 2 ^ z) (ha : a < 2 ^ (z - k)) (hb : b < 2 ^ (z - k)) (hd : d * 4 ^ (z - k) + Cv.place (z - k) a b = Cv.place z x y)
    (hp : p = a / 2 ^ (z - 1 - k) % 2) (hq : q = b / 2 ^ (z - 1 - k) % 2)
    (hs : (p = 0 ∧ q = 0 ∧ sw = true ∧ mi = false) ∨ (p = 0 ∧ q = 1 ∧ sw = false ∧ mi = false) ∨ (p = 1 ∧ q = 1 ∧ sw = false ∧ mi = false) ∨ (p = 1 ∧ q = 0 ∧ sw = true ∧ mi = true)) :
    d < 4503599627370496 ∧ (Cv.turn sw mi (z - 1 - k) a b).1 < 2 ^ (z - (k + 1)) ∧ (Cv.turn sw mi (z - 1 - k) a b).2 < 2 ^ (z - (k + 1)) ∧ (d * 4 + Cv.num p q) * 4 ^ (z - (k + 1)) + Cv.place (z - (k + 1)) (Cv.turn sw mi (z - 1 - k) a b).1 (Cv.turn sw mi (z - 1 - k) a b).2 = Cv.place z x y := by
  have hpl := Cv.place_lt z x y hx hy
  have hdl := Cv.d_lt z (z - k) d _ hz (by rw [hd]; exact hpl)
  obtain ⟨n, hn⟩ : ∃ n, z = k + 1 + n := ⟨z - (k + 1), by omega⟩
  subst hn
  rw [show k + 1 + n - k = n + 1 by omega] at ha hb hd
  rw [show k + 1 + n - 1 - k = n by omega] at hp hq ⊢
  rw [show k + 1 + n - (k + 1) = n by omega]
  obtain ⟨h1, h2, h3⟩ := Cv.place_step n a b p q ha hb hp hq sw mi hs
  refine ⟨hdl, h2, h3, ?_⟩
  rw [← hd, h1, Cv.four_succ, Nat.add_mul, Nat.mul_assoc, Nat.add_assoc]

theorem world_round {w w1 wr w2 w3 : World} {cs : Array Value} {t : TypeId} (hbl : Below w.heap.size w wr) (hsz : w1.heap.size < wr.heap.size) (hb2 : Below wr.drew.heap.size wr.drew w2) (hb3 : Below w2.heap.size w2 w3)
    (h : w2.heap[w1.heap.size]? = some (.cells cs t (0, 0))) : Below w.heap.size w w3 ∧ w1.heap.size < w3.heap.size ∧ w3.heap[w1.heap.size]? = some (.cells cs t (0, 0)) := by
  have s1 : wr.heap.size ≤ w2.heap.size := hb2.size
  have s2 := hb3.size
  have s0 := hbl.size
  exact ⟨(hbl.drew.trans (hb2.mono s0)).trans (hb3.mono (Nat.le_trans s0 s1)), by omega, (hb3.block _ (by omega)).trans h⟩

set_option maxHeartbeats 1600000 in
theorem place_ok (z x y : Nat) (hz : z ≤ 26) (hx : x < 2 ^ z) (hy : y < 2 ^ z) (w : World) :
    Calls Tryd.prog 32 #[.int .i64 z, .int .i64 x, .int .i64 y] w fun e w' => e = .returned (.tuple #[.int .u64 (Cv.place z x y), .int .i64 0]) ∧ Below w.heap.size w w' := by
  have hs : Cv.side z = ((2 ^ z : Nat) : Int) := by unfold Cv.side; rw [if_pos (by omega)]; simp
  have h64 := pow63 z (by omega)
  have hs0 : 0 < Cv.side z := by rw [hs]; have := Cv.pow_pos2 z; omega
  have hsx : (x : Int) < Cv.side z := by rw [hs]; omega
  have hsy : (y : Int) < Cv.side z := by rw [hs]; omega
  have hx63 : x ≤ 4611686018427387904 := by omega
  have hy63 : y ≤ 4611686018427387904 := by omega
  have HS := Lib.hid hs
  clear hs
  have HX := Lib.hid hx
  have HY := Lib.hid hy
  clear hx hy h64
  go_enter Tryd.func32, Tryd.ntmps32
  go_wp2_with (first | (go_at_call 43; refine (side_any _ _).mono ?_; rintro e w' ⟨rfl, rfl⟩) | (go_at_call 44; refine (quarters_any _).mono ?_; rintro e w1 ⟨rfl, hb1⟩))
  clear hs0 hsx hsy HS
  have h0 : (w1.alloc (.cells Cv.qcells 81)).heap[w1.heap.size]? = some (.cells Cv.qcells 81 (0, 0)) := heap_alloc_new _ _
  have hb0 : Below w.heap.size w (w1.alloc (.cells Cv.qcells 81)) := hb1.alloc hb1.size _
  have hsz0 : w1.heap.size < (w1.alloc (.cells Cv.qcells 81)).heap.size := by simp
  go_loopw [10, 11, 12, 44] (fun ca cb cd ci wr => ∃ k a b d : Nat, k ≤ z ∧ ci = .int .i64 k ∧ ca = .int .u64 a ∧ cb = .int .u64 b ∧ cd = .int .u64 d ∧ a < 2 ^ (z - k) ∧ b < 2 ^ (z - k) ∧ d * 4 ^ (z - k) + Cv.place (z - k) a b = Cv.place z x y ∧ Below w.heap.size w wr ∧ w1.heap.size < wr.heap.size ∧ wr.heap[w1.heap.size]? = some (.cells Cv.qcells 81 (0, 0))) (fun _ _ _ ci _ => z - (intOf ci).toNat)
  case atStart => exact ⟨0, x, y, 0, Nat.zero_le _, rfl, rfl, rfl, rfl, HX.out, HY.out, by simp, hb0, hsz0, h0⟩
  case round =>
    obtain ⟨k, a, b, d, hk, rfl, rfl, rfl, rfl, ha, hb, hd, hbl, hsz, hblk⟩ := hrel
    have HA := Lib.hid ha
    have HB := Lib.hid hb
    have HD := Lib.hid hd
    have HK := Lib.hid hblk
    clear ha hb hd hblk h0 hb0 hsz0 hb1
    by_cases hlt : k < z
    · have ha63 : a < 18446744073709551616 := by have := pow63 (z - k) (by omega); have := HA.out; omega
      have hb63 : b < 18446744073709551616 := by have := pow63 (z - k) (by omega); have := HB.out; omega
      obtain ⟨p, hp⟩ : ∃ p, p = a / 2 ^ (z - 1 - k) % 2 := ⟨_, rfl⟩
      obtain ⟨q, hq⟩ : ∃ q, q = b / 2 ^ (z - 1 - k) % 2 := ⟨_, rfl⟩
      have hX : bits BinOp.and IntKind.u64 ((a : Int) / 2 ^ (z - 1 - k)) 1 = (p : Int) := by rw [hp]; exact u64bit a _ ha63
      have hY : bits BinOp.and IntKind.u64 ((b : Int) / 2 ^ (z - 1 - k)) 1 = (q : Int) := by rw [hq]; exact u64bit b _ hb63
      have hpq : (p = 0 ∨ p = 1) ∧ (q = 0 ∨ q = 1) := by rw [hp, hq]; omega
      have HP := Lib.hid hp
      have HQ := Lib.hid hq
      clear hp hq
      rcases hpq with ⟨rfl | rfl, rfl | rfl⟩
      · have hnum : Cv.num 0 0 = 0 := rfl
        go_wp2_with fail
        go_region_with (go_at_call 45; refine (number_int _ _ ?c1 ?c2 ?c3 ?c4 _).mono ?_; (case c1 => omega); (case c2 => omega); (case c3 => omega); (case c4 => omega); rintro e w2 ⟨rfl, hb2⟩)
        have hk2 := hb2.block w1.heap.size hsz
        have hblk2 := hk2.trans HK.out
        have c0 := cell_of_row w2 w1.heap.size 0 _ _ _ hblk2
        have c1 := cell_of_row w2 w1.heap.size 1 _ _ _ hblk2
        have c2 := cell_of_row w2 w1.heap.size 2 _ _ _ hblk2
        have c3 := cell_of_row w2 w1.heap.size 3 _ _ _ hblk2
        have HK2 := Lib.hid hblk2
        clear hk2 hblk2
        go_wp2_with (go_at_call 46; refine (turn_int _ _ _ _ _ _ _ ?c1 ?c2 ?c3 ?c4 ?c5 ?c6 _).mono ?_; (case c1 => omega); (case c2 => omega); (case c3 => omega); (case c4 => omega); (case c5 => omega); (case c6 => omega); rintro e w3 ⟨rfl, hb3⟩)
        have hr := Cv.place_round z k a b d 0 0 x y true false hlt hz HX.out HY.out HA.out HB.out HD.out HP.out HQ.out (by simp)
        have hw := world_round hbl hsz hb2 hb3 HK2.out
        exact ⟨⟨k + 1, _, _, d * 4 + 0, by omega, by go_num, rfl, rfl, congrArg (Value.int .u64) (u64or4 d 0 hr.1 (by omega)), hr.2.1, hr.2.2.1, hr.2.2.2, hw⟩, by simp [intOf]; omega⟩
      · have hnum : Cv.num 0 1 = 1 := rfl
        go_wp2_with fail
        go_region_with (go_at_call 45; refine (number_int _ _ ?c1 ?c2 ?c3 ?c4 _).mono ?_; (case c1 => omega); (case c2 => omega); (case c3 => omega); (case c4 => omega); rintro e w2 ⟨rfl, hb2⟩)
        have hk2 := hb2.block w1.heap.size hsz
        have hblk2 := hk2.trans HK.out
        have c0 := cell_of_row w2 w1.heap.size 4 _ _ _ hblk2
        have c1 := cell_of_row w2 w1.heap.size 5 _ _ _ hblk2
        have c2 := cell_of_row w2 w1.heap.size 6 _ _ _ hblk2
        have c3 := cell_of_row w2 w1.heap.size 7 _ _ _ hblk2
        have HK2 := Lib.hid hblk2
        clear hk2 hblk2
        go_wp2_with (go_at_call 46; refine (turn_int _ _ _ _ _ _ _ ?c1 ?c2 ?c3 ?c4 ?c5 ?c6 _).mono ?_; (case c1 => omega); (case c2 => omega); (case c3 => omega); (case c4 => omega); (case c5 => omega); (case c6 => omega); rintro e w3 ⟨rfl, hb3⟩)
        have hr := Cv.place_round z k a b d 0 1 x y false false hlt hz HX.out HY.out HA.out HB.out HD.out HP.out HQ.out (by simp)
        have hw := world_round hbl hsz hb2 hb3 HK2.out
        exact ⟨⟨k + 1, _, _, d * 4 + 1, by omega, by go_num, rfl, rfl, congrArg (Value.int .u64) (u64or4 d 1 hr.1 (by omega)), hr.2.1, hr.2.2.1, hr.2.2.2, hw⟩, by simp [intOf]; omega⟩
      · have hnum : Cv.num 1 0 = 3 := rfl
        go_wp2_with fail
        go_region_with (go_at_call 45; refine (number_int _ _ ?c1 ?c2 ?c3 ?c4 _).mono ?_; (case c1 => omega); (case c2 => omega); (case c3 => omega); (case c4 => omega); rintro e w2 ⟨rfl, hb2⟩)
        have hk2 := hb2.block w1.heap.size hsz
        have hblk2 := hk2.trans HK.out
        have c0 := cell_of_row w2 w1.heap.size 12 _ _ _ hblk2
        have c1 := cell_of_row w2 w1.heap.size 13 _ _ _ hblk2
        have c2 := cell_of_row w2 w1.heap.size 14 _ _ _ hblk2
        have c3 := cell_of_row w2 w1.heap.size 15 _ _ _ hblk2
        have HK2 := Lib.hid hblk2
        clear hk2 hblk2
        go_wp2_with (go_at_call 46; refine (turn_int _ _ _ _ _ _ _ ?c1 ?c2 ?c3 ?c4 ?c5 ?c6 _).mono ?_; (case c1 => omega); (case c2 => omega); (case c3 => omega); (case c4 => omega); (case c5 => omega); (case c6 => omega); rintro e w3 ⟨rfl, hb3⟩)
        have hr := Cv.place_round z k a b d 1 0 x y true true hlt hz HX.out HY.out HA.out HB.out HD.out HP.out HQ.out (by simp)
        have hw := world_round hbl hsz hb2 hb3 HK2.out
        exact ⟨⟨k + 1, _, _, d * 4 + 3, by omega, by go_num, rfl, rfl, congrArg (Value.int .u64) (u64or4 d 3 hr.1 (by omega)), hr.2.1, hr.2.2.1, hr.2.2.2, hw⟩, by simp [intOf]; omega⟩
      · have hnum : Cv.num 1 1 = 2 := rfl
        go_wp2_with fail
        go_region_with (go_at_call 45; refine (number_int _ _ ?c1 ?c2 ?c3 ?c4 _).mono ?_; (case c1 => omega); (case c2 => omega); (case c3 => omega); (case c4 => omega); rintro e w2 ⟨rfl, hb2⟩)
        have hk2 := hb2.block w1.heap.size hsz
        have hblk2 := hk2.trans HK.out
        have c0 := cell_of_row w2 w1.heap.size 8 _ _ _ hblk2
        have c1 := cell_of_row w2 w1.heap.size 9 _ _ _ hblk2
        have c2 := cell_of_row w2 w1.heap.size 10 _ _ _ hblk2
        have c3 := cell_of_row w2 w1.heap.size 11 _ _ _ hblk2
        have HK2 := Lib.hid hblk2
        clear hk2 hblk2
        go_wp2_with (go_at_call 46; refine (turn_int _ _ _ _ _ _ _ ?c1 ?c2 ?c3 ?c4 ?c5 ?c6 _).mono ?_; (case c1 => omega); (case c2 => omega); (case c3 => omega); (case c4 => omega); (case c5 => omega); (case c6 => omega); rintro e w3 ⟨rfl, hb3⟩)
        have hr := Cv.place_round z k a b d 1 1 x y false false hlt hz HX.out HY.out HA.out HB.out HD.out HP.out HQ.out (by simp)
        have hw := world_round hbl hsz hb2 hb3 HK2.out
        exact ⟨⟨k + 1, _, _, d * 4 + 2, by omega, by go_num, rfl, rfl, congrArg (Value.int .u64) (u64or4 d 2 hr.1 (by omega)), hr.2.1, hr.2.2.1, hr.2.2.2, hw⟩, by simp [intOf]; omega⟩
    · have hkz : k = z := by omega
      have hd := HD.out
      rw [hkz, Nat.sub_self, Nat.pow_zero, Nat.mul_one, Cv.place] at hd
      have hd' : (d : Int) = (Cv.place z x y : Int) := by omega
      have HE := Lib.hid hd'
      clear hd hd' hkz
      go_wp2_with fail
      go_ret2
      exact ⟨ret2 HE.out rfl, hbl⟩

end Go.Proofs.YtdipincjginmcaaDoor
