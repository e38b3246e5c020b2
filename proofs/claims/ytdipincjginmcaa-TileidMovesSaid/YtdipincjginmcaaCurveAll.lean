/- What curve's and the document's Place, Point, Next give, at every input, by one set of names; the small example. -/
import Derived.Test.YtdipincjginmcaaCurvePlaceOk
import Derived.Test.YtdipincjginmcaaCurvePoint
import Derived.Test.YtdipincjginmcaaRefTop
namespace Go.Proofs.Ytdipincjginmcaa
open Go.RowKit

theorem bthen {w w1 w2 : World} (h : Below w.heap.size w w1) (k : Below w1.heap.size w1 w2) : Below w.heap.size w w2 := h.trans (k.mono h.size)
theorem beq_below {w w1 : World} (h : w = w1) : Below w.heap.size w w1 := by subst h; exact Below.refl _ _

def Cv.qok (z d : Int) : Bool := decide (0 ≤ z ∧ z ≤ 26 ∧ d < ((4 ^ z.toNat : Nat) : Int))
def Cv.px (z d : Int) : Int := if Cv.qok z d then (((Cv.point z.toNat d.toNat).1 : Nat) : Int) else 0
def Cv.py (z d : Int) : Int := if Cv.qok z d then (((Cv.point z.toNat d.toNat).2 : Nat) : Int) else 0
def Cv.qe (z d : Int) : Int := if 0 ≤ z ∧ z ≤ 26 then (if Cv.qok z d then 0 else 8) else 2
def Cv.nok (z x y : Int) : Bool := Cv.okB z x y && Cv.qok z (Cv.pv z x y + 1)
def Cv.nx (z x y : Int) : Int := if Cv.nok z x y then Cv.px z (Cv.pv z x y + 1) else 0
def Cv.ny (z x y : Int) : Int := if Cv.nok z x y then Cv.py z (Cv.pv z x y + 1) else 0
def Cv.ne (z x y : Int) : Int := if Cv.okB z x y then (if Cv.qok z (Cv.pv z x y + 1) then 0 else 6) else Cv.pe z x y

theorem Cv.side_in (z : Int) (h : 0 ≤ z ∧ z ≤ 26) : Cv.side z = ((2 ^ z.toNat : Nat) : Int) := by unfold Cv.side; rw [if_pos h]
theorem Cv.ok_in {z x y : Int} (h : Cv.okB z x y = true) : (0 ≤ z ∧ z ≤ 26) ∧ 0 ≤ x ∧ x < ((2 ^ z.toNat : Nat) : Int) ∧ 0 ≤ y ∧ y < ((2 ^ z.toNat : Nat) : Int) := by
  unfold Cv.okB at h
  have := of_decide_eq_true h
  exact ⟨⟨this.1, this.2.1⟩, this.2.2⟩
theorem Cv.ok_out {z x y : Int} (h : Cv.okB z x y = false) (hz : 0 ≤ z ∧ z ≤ 26) : x < 0 ∨ y < 0 ∨ Cv.side z ≤ x ∨ Cv.side z ≤ y := by
  unfold Cv.okB at h
  have := of_decide_eq_false h
  rw [Cv.side_in z hz]
  omega
theorem Cv.ok_mk (z x y : Nat) (hz : z ≤ 26) (hx : x < 2 ^ z) (hy : y < 2 ^ z) : Cv.okB z x y = true := by
  unfold Cv.okB
  exact decide_eq_true (by rw [Int.toNat_natCast]; omega)
theorem Cv.pv_ok {z x y : Int} (h : Cv.okB z x y = true) : Cv.pv z x y = ((Cv.place z.toNat x.toNat y.toNat : Nat) : Int) := by unfold Cv.pv; rw [if_pos h]
theorem Cv.pv_not {z x y : Int} (h : Cv.okB z x y = false) : Cv.pv z x y = 0 := by unfold Cv.pv; rw [if_neg (by simp [h])]
theorem Cv.pe_ok {z x y : Int} (h : Cv.okB z x y = true) : Cv.pe z x y = 0 := by unfold Cv.pe; rw [if_pos (Cv.ok_in h).1, if_pos h]
theorem Cv.pe_not {z x y : Int} (h : Cv.okB z x y = false) : Cv.pe z x y = 8 ∨ Cv.pe z x y = 2 := by
  unfold Cv.pe
  split
  · rw [if_neg (by simp [h])]; exact Or.inl rfl
  · exact Or.inr rfl
theorem Cv.pv_bd (z x y : Int) : 0 ≤ Cv.pv z x y ∧ Cv.pv z x y < 4503599627370496 := by
  unfold Cv.pv
  split
  · rename_i h
    obtain ⟨hz, hx0, hx, hy0, hy⟩ := Cv.ok_in h
    have h1 := Cv.place_lt z.toNat x.toNat y.toNat (by omega) (by omega)
    have h2 := four26 z.toNat (by omega)
    omega
  · omega
theorem Cv.q_in {z d : Int} (h : Cv.qok z d = true) : (0 ≤ z ∧ z ≤ 26) ∧ d < ((4 ^ z.toNat : Nat) : Int) := by
  unfold Cv.qok at h
  have := of_decide_eq_true h
  exact ⟨⟨this.1, this.2.1⟩, this.2.2⟩
theorem Cv.q_out {z d : Int} (h : Cv.qok z d = false) (hz : 0 ≤ z ∧ z ≤ 26) : ((4 ^ z.toNat : Nat) : Int) ≤ d := by
  unfold Cv.qok at h
  have := of_decide_eq_false h
  omega
theorem Cv.qe_ok {z d : Int} (h : Cv.qok z d = true) : Cv.qe z d = 0 := by unfold Cv.qe; rw [if_pos (Cv.q_in h).1, if_pos h]
theorem Cv.qe_not {z d : Int} (h : Cv.qok z d = false) : Cv.qe z d = 8 ∨ Cv.qe z d = 2 := by
  unfold Cv.qe
  split
  · rw [if_neg (by simp [h])]; exact Or.inl rfl
  · exact Or.inr rfl
theorem Cv.px_bd (z d : Int) : (0 ≤ Cv.px z d ∧ Cv.px z d < 67108864) ∧ 0 ≤ Cv.py z d ∧ Cv.py z d < 67108864 := by
  unfold Cv.px Cv.py
  split
  · rename_i h
    obtain ⟨hz, _⟩ := Cv.q_in h
    have h1 := Cv.point_lt z.toNat d.toNat
    have h2 := two26 z.toNat (by omega)
    omega
  · omega

theorem place_any (z x y : Int) (w : World) :
    Calls Try.prog 13 #[.int .i64 z, .int .i64 x, .int .i64 y] w fun e w' => e = .returned (.tuple #[.int .u64 (Cv.pv z x y), .int .i64 (Cv.pe z x y)]) ∧ Below w.heap.size w w' := by
  by_cases hz : 0 ≤ z ∧ z ≤ 26
  · rcases Bool.eq_false_or_eq_true (Cv.okB z x y) with h | h
    · rw [Cv.pv_ok h, Cv.pe_ok h]
      obtain ⟨_, hx0, hx, hy0, hy⟩ := Cv.ok_in h
      have hc := place_ok z.toNat x.toNat y.toNat (by omega) (by omega) (by omega) w
      rwa [Int.toNat_of_nonneg hz.1, Int.toNat_of_nonneg hx0, Int.toNat_of_nonneg hy0] at hc
    · have e : Cv.pe z x y = 8 := by unfold Cv.pe; rw [if_pos hz, if_neg (by simp [h])]
      rw [Cv.pv_not h, e]
      exact (place_out z x y hz.1 hz.2 (Cv.ok_out h hz) w).mono fun _ _ h => ⟨h.1, beq_below h.2⟩
  · have h : Cv.okB z x y = false := by unfold Cv.okB; exact decide_eq_false (by omega)
    have e : Cv.pe z x y = 2 := by unfold Cv.pe; rw [if_neg hz]
    rw [Cv.pv_not h, e]
    exact (place_arg z x y hz w).mono fun _ _ h => ⟨h.1, beq_below h.2⟩

theorem refPlace_any (z x y : Int) (w : World) :
    Calls Try.prog 14 #[.int .i64 z, .int .i64 x, .int .i64 y] w fun e w' => e = .returned (.tuple #[.int .u64 (Cv.pv z x y), .int .i64 (Cv.pe z x y)]) ∧ w = w' := by
  by_cases hz : 0 ≤ z ∧ z ≤ 26
  · rcases Bool.eq_false_or_eq_true (Cv.okB z x y) with h | h
    · rw [Cv.pv_ok h, Cv.pe_ok h]
      obtain ⟨_, hx0, hx, hy0, hy⟩ := Cv.ok_in h
      have hc := refPlace_ok z.toNat x.toNat y.toNat (by omega) (by omega) (by omega) w
      rwa [Int.toNat_of_nonneg hz.1, Int.toNat_of_nonneg hx0, Int.toNat_of_nonneg hy0] at hc
    · have e : Cv.pe z x y = 8 := by unfold Cv.pe; rw [if_pos hz, if_neg (by simp [h])]
      rw [Cv.pv_not h, e]
      exact (refPlace_out z x y hz.1 hz.2 (Cv.ok_out h hz) w).mono fun _ _ h => ⟨h.1, h.2⟩
  · have h : Cv.okB z x y = false := by unfold Cv.okB; exact decide_eq_false (by omega)
    have e : Cv.pe z x y = 2 := by unfold Cv.pe; rw [if_neg hz]
    rw [Cv.pv_not h, e]
    exact (refPlace_arg z x y hz w).mono fun _ _ h => ⟨h.1, h.2⟩

theorem point_any (z d : Int) (hd0 : 0 ≤ d) (w : World) :
    Calls Try.prog 20 #[.int .i64 z, .int .u64 d] w fun e w' => e = .returned (.tuple #[.int .i64 (Cv.px z d), .int .i64 (Cv.py z d), .int .i64 (Cv.qe z d)]) ∧ Below w.heap.size w w' := by
  by_cases hz : 0 ≤ z ∧ z ≤ 26
  · rcases Bool.eq_false_or_eq_true (Cv.qok z d) with h | h
    · have e1 : Cv.px z d = (((Cv.point z.toNat d.toNat).1 : Nat) : Int) := by unfold Cv.px; rw [if_pos h]
      have e2 : Cv.py z d = (((Cv.point z.toNat d.toNat).2 : Nat) : Int) := by unfold Cv.py; rw [if_pos h]
      rw [e1, e2, Cv.qe_ok h]
      have hd := (Cv.q_in h).2
      have hc := point_ok z.toNat d.toNat (by omega) (by omega) w
      rwa [Int.toNat_of_nonneg hz.1, Int.toNat_of_nonneg hd0] at hc
    · have e : Cv.qe z d = 8 := by unfold Cv.qe; rw [if_pos hz, if_neg (by simp [h])]
      have e1 : Cv.px z d = 0 := by unfold Cv.px; rw [if_neg (by simp [h])]
      have e2 : Cv.py z d = 0 := by unfold Cv.py; rw [if_neg (by simp [h])]
      rw [e1, e2, e]
      have hq := Cv.q_out h hz
      have hc := point_out z.toNat d.toNat (by omega) (by omega) w
      rw [Int.toNat_of_nonneg hz.1, Int.toNat_of_nonneg hd0] at hc
      exact hc.mono fun _ _ h => ⟨h.1, beq_below h.2⟩
  · have h : Cv.qok z d = false := by unfold Cv.qok; exact decide_eq_false (by omega)
    have e : Cv.qe z d = 2 := by unfold Cv.qe; rw [if_neg hz]
    have e1 : Cv.px z d = 0 := by unfold Cv.px; rw [if_neg (by simp [h])]
    have e2 : Cv.py z d = 0 := by unfold Cv.py; rw [if_neg (by simp [h])]
    rw [e1, e2, e]
    exact (point_arg z d hz w).mono fun _ _ h => ⟨h.1, beq_below h.2⟩

theorem refPoint_any (z d : Int) (hd0 : 0 ≤ d) (w : World) :
    Calls Try.prog 21 #[.int .i64 z, .int .u64 d] w fun e w' => e = .returned (.tuple #[.int .i64 (Cv.px z d), .int .i64 (Cv.py z d), .int .i64 (Cv.qe z d)]) ∧ w = w' := by
  by_cases hz : 0 ≤ z ∧ z ≤ 26
  · rcases Bool.eq_false_or_eq_true (Cv.qok z d) with h | h
    · have e1 : Cv.px z d = (((Cv.point z.toNat d.toNat).1 : Nat) : Int) := by unfold Cv.px; rw [if_pos h]
      have e2 : Cv.py z d = (((Cv.point z.toNat d.toNat).2 : Nat) : Int) := by unfold Cv.py; rw [if_pos h]
      rw [e1, e2, Cv.qe_ok h]
      have hd := (Cv.q_in h).2
      have hc := refPoint_ok z.toNat d.toNat (by omega) (by omega) w
      rwa [Int.toNat_of_nonneg hz.1, Int.toNat_of_nonneg hd0] at hc
    · have e : Cv.qe z d = 8 := by unfold Cv.qe; rw [if_pos hz, if_neg (by simp [h])]
      have e1 : Cv.px z d = 0 := by unfold Cv.px; rw [if_neg (by simp [h])]
      have e2 : Cv.py z d = 0 := by unfold Cv.py; rw [if_neg (by simp [h])]
      rw [e1, e2, e]
      have hq := Cv.q_out h hz
      have hc := refPoint_out z d hz.1 hz.2 hq w
      exact hc.mono fun _ _ h => ⟨h.1, h.2⟩
  · have h : Cv.qok z d = false := by unfold Cv.qok; exact decide_eq_false (by omega)
    have e : Cv.qe z d = 2 := by unfold Cv.qe; rw [if_neg hz]
    have e1 : Cv.px z d = 0 := by unfold Cv.px; rw [if_neg (by simp [h])]
    have e2 : Cv.py z d = 0 := by unfold Cv.py; rw [if_neg (by simp [h])]
    rw [e1, e2, e]
    exact (refPoint_arg z d hz w).mono fun _ _ h => ⟨h.1, h.2⟩

theorem next_any (z x y : Int) (w : World) :
    Calls Try.prog 15 #[.int .i64 z, .int .i64 x, .int .i64 y] w fun e w' => e = .returned (.tuple #[.int .i64 (Cv.nx z x y), .int .i64 (Cv.ny z x y), .int .i64 (Cv.ne z x y)]) ∧ Below w.heap.size w w' := by
  obtain ⟨hv0, hv1⟩ := Cv.pv_bd z x y
  rcases Bool.eq_false_or_eq_true (Cv.okB z x y) with h | h
  · have hpe := Cv.pe_ok h
    rcases Bool.eq_false_or_eq_true (Cv.qok z (Cv.pv z x y + 1)) with k | k
    · have e1 : Cv.nx z x y = Cv.px z (Cv.pv z x y + 1) := by unfold Cv.nx Cv.nok; rw [h, k]; rfl
      have e2 : Cv.ny z x y = Cv.py z (Cv.pv z x y + 1) := by unfold Cv.ny Cv.nok; rw [h, k]; rfl
      have e3 : Cv.ne z x y = 0 := by unfold Cv.ne; rw [h, k]; rfl
      rw [e1, e2, e3]
      have hqe := Cv.qe_ok k
      clear e1 e2 e3 h k
      go_enter Try.func15, Try.ntmps15
      go_wp2_with (first | (go_at_call 13; refine (place_any _ _ _ _).mono ?_; rintro e w1 ⟨rfl, hb1⟩) | (go_at_call 20; refine (point_any _ _ (by omega) _).mono ?_; rintro e w2 ⟨rfl, hb2⟩))
      go_ret3
      exact ⟨rfl, bthen hb1 hb2⟩
    · have e1 : Cv.nx z x y = 0 := by unfold Cv.nx Cv.nok; rw [h, k]; rfl
      have e2 : Cv.ny z x y = 0 := by unfold Cv.ny Cv.nok; rw [h, k]; rfl
      have e3 : Cv.ne z x y = 6 := by unfold Cv.ne; rw [h, k]; rfl
      rw [e1, e2, e3]
      have hqe : (Cv.qe z (Cv.pv z x y + 1) != 0) = true := by rcases Cv.qe_not k with q | q <;> rw [q] <;> rfl
      clear e1 e2 e3 h k
      go_enter Try.func15, Try.ntmps15
      go_wp2_with (first | (go_at_call 13; refine (place_any _ _ _ _).mono ?_; rintro e w1 ⟨rfl, hb1⟩) | (go_at_call 20; refine (point_any _ _ (by omega) _).mono ?_; rintro e w2 ⟨rfl, hb2⟩))
      go_ret3
      exact ⟨rfl, bthen hb1 hb2⟩
  · have e1 : Cv.nx z x y = 0 := by unfold Cv.nx Cv.nok; rw [h]; rfl
    have e2 : Cv.ny z x y = 0 := by unfold Cv.ny Cv.nok; rw [h]; rfl
    have e3 : Cv.ne z x y = Cv.pe z x y := by unfold Cv.ne; rw [h]; rfl
    rw [e1, e2, e3]
    have hpe : (Cv.pe z x y != 0) = true := by rcases Cv.pe_not h with q | q <;> rw [q] <;> rfl
    clear e1 e2 e3 h
    go_enter Try.func15, Try.ntmps15
    go_wp2_with (first | (go_at_call 13; refine (place_any _ _ _ _).mono ?_; rintro e w1 ⟨rfl, hb1⟩) | (go_at_call 20; refine (point_any _ _ (by omega) _).mono ?_; rintro e w2 ⟨rfl, hb2⟩))
    go_ret3
    exact ⟨rfl, hb1⟩

theorem refNext_any (z x y : Int) (w : World) :
    Calls Try.prog 16 #[.int .i64 z, .int .i64 x, .int .i64 y] w fun e w' => e = .returned (.tuple #[.int .i64 (Cv.nx z x y), .int .i64 (Cv.ny z x y), .int .i64 (Cv.ne z x y)]) ∧ w = w' := by
  obtain ⟨hv0, hv1⟩ := Cv.pv_bd z x y
  rcases Bool.eq_false_or_eq_true (Cv.okB z x y) with h | h
  · have hpe := Cv.pe_ok h
    rcases Bool.eq_false_or_eq_true (Cv.qok z (Cv.pv z x y + 1)) with k | k
    · have e1 : Cv.nx z x y = Cv.px z (Cv.pv z x y + 1) := by unfold Cv.nx Cv.nok; rw [h, k]; rfl
      have e2 : Cv.ny z x y = Cv.py z (Cv.pv z x y + 1) := by unfold Cv.ny Cv.nok; rw [h, k]; rfl
      have e3 : Cv.ne z x y = 0 := by unfold Cv.ne; rw [h, k]; rfl
      rw [e1, e2, e3]
      have hqe := Cv.qe_ok k
      clear e1 e2 e3 h k
      go_enter Try.func16, Try.ntmps16
      go_wp2_with (first | (go_at_call 14; refine (refPlace_any _ _ _ _).mono ?_; rintro e w1 ⟨rfl, rfl⟩) | (go_at_call 21; refine (refPoint_any _ _ (by omega) _).mono ?_; rintro e w2 ⟨rfl, rfl⟩))
      go_ret3
      exact ⟨rfl, rfl⟩
    · have e1 : Cv.nx z x y = 0 := by unfold Cv.nx Cv.nok; rw [h, k]; rfl
      have e2 : Cv.ny z x y = 0 := by unfold Cv.ny Cv.nok; rw [h, k]; rfl
      have e3 : Cv.ne z x y = 6 := by unfold Cv.ne; rw [h, k]; rfl
      rw [e1, e2, e3]
      have hqe : (Cv.qe z (Cv.pv z x y + 1) != 0) = true := by rcases Cv.qe_not k with q | q <;> rw [q] <;> rfl
      clear e1 e2 e3 h k
      go_enter Try.func16, Try.ntmps16
      go_wp2_with (first | (go_at_call 14; refine (refPlace_any _ _ _ _).mono ?_; rintro e w1 ⟨rfl, rfl⟩) | (go_at_call 21; refine (refPoint_any _ _ (by omega) _).mono ?_; rintro e w2 ⟨rfl, rfl⟩))
      go_ret3
      exact ⟨rfl, rfl⟩
  · have e1 : Cv.nx z x y = 0 := by unfold Cv.nx Cv.nok; rw [h]; rfl
    have e2 : Cv.ny z x y = 0 := by unfold Cv.ny Cv.nok; rw [h]; rfl
    have e3 : Cv.ne z x y = Cv.pe z x y := by unfold Cv.ne; rw [h]; rfl
    rw [e1, e2, e3]
    have hpe : (Cv.pe z x y != 0) = true := by rcases Cv.pe_not h with q | q <;> rw [q] <;> rfl
    clear e1 e2 e3 h
    go_enter Try.func16, Try.ntmps16
    go_wp2_with (first | (go_at_call 14; refine (refPlace_any _ _ _ _).mono ?_; rintro e w1 ⟨rfl, rfl⟩) | (go_at_call 21; refine (refPoint_any _ _ (by omega) _).mono ?_; rintro e w2 ⟨rfl, rfl⟩))
    go_ret3
    exact ⟨rfl, rfl⟩

set_option maxHeartbeats 800000 in
theorem awake03 (w : World) :
    Calls Try.prog 19 #[] w fun e w' => e = .returned (.bool true) ∧ Below w.heap.size w w' := by
  have a1 : Cv.pv 2 3 0 = 15 := by decide +kernel
  have a2 : Cv.pe 2 3 0 = 0 := by decide +kernel
  have a3 : Cv.px 1 2 = 1 := by decide +kernel
  have a4 : Cv.py 1 2 = 1 := by decide +kernel
  have a5 : Cv.qe 1 2 = 0 := by decide +kernel
  have a6 : Cv.pe 27 0 0 = 2 := by decide +kernel
  have a7 : Cv.pe 1 2 0 = 8 := by decide +kernel
  have a8 : Cv.nx 1 0 1 = 1 := by decide +kernel
  have a9 : Cv.ny 1 0 1 = 1 := by decide +kernel
  have a10 : Cv.ne 1 0 1 = 0 := by decide +kernel
  have a11 : Cv.ne 1 1 0 = 6 := by decide +kernel
  have a12 : Cv.side 3 = 8 := by decide +kernel
  have a13 : Cv.side 27 = 0 := by decide +kernel
  go_enter Try.func19, Try.ntmps19
  go_wp2_with fail
  refine (place_any _ _ _ _).mono ?_; rintro e w1 ⟨rfl, hb1⟩
  go_wp2_with fail
  refine (point_any _ _ (by omega) _).mono ?_; rintro e w2 ⟨rfl, hb2⟩
  go_wp2_with fail
  refine (place_any _ _ _ _).mono ?_; rintro e w3 ⟨rfl, hb3⟩
  go_wp2_with fail
  refine (place_any _ _ _ _).mono ?_; rintro e w4 ⟨rfl, hb4⟩
  go_wp2_with fail
  refine (next_any _ _ _ _).mono ?_; rintro e w5 ⟨rfl, hb5⟩
  go_wp2_with fail
  refine (next_any _ _ _ _).mono ?_; rintro e w6 ⟨rfl, hb6⟩
  go_wp2_with fail
  refine (side_any _ _).mono ?_; rintro e w' ⟨rfl, rfl⟩
  go_wp2_with fail
  refine (side_any _ _).mono ?_; rintro e w' ⟨rfl, rfl⟩
  go_wp2_with fail
  go_ret
  exact ⟨rfl, bthen hb1 (bthen hb2 (bthen hb3 (bthen hb4 (bthen hb5 hb6))))⟩

end Go.Proofs.Ytdipincjginmcaa
