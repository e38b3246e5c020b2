/- Plain laws of the curve at ints: what the laws ask of places, tiles and neighbours. -/
import Derived.Test.YtdipincjginmcaaDoorCurveAll
namespace Go.Proofs.YtdipincjginmcaaDoor
open Go.RowKit

def Cv.wrth (n : Int) : Int := if n < 0 then -n else n

/-- an existing tile, by naturals -/
theorem Cv.ok_nat {z x y : Int} (h : Cv.okB z x y = true) : ∃ n a b : Nat, z = n ∧ x = a ∧ y = b ∧ n ≤ 26 ∧ a < 2 ^ n ∧ b < 2 ^ n := by
  obtain ⟨hz, hx0, hx, hy0, hy⟩ := Cv.ok_in h
  exact ⟨z.toNat, x.toNat, y.toNat, by omega, by omega, by omega, by omega, by omega, by omega⟩
theorem Cv.pv_nat (n a b : Nat) (hn : n ≤ 26) (ha : a < 2 ^ n) (hb : b < 2 ^ n) : Cv.pv n a b = (Cv.place n a b : Int) := by
  rw [Cv.pv_ok (Cv.ok_mk n a b hn ha hb), Int.toNat_natCast, Int.toNat_natCast, Int.toNat_natCast]
theorem Cv.q_mk (n d : Nat) (hn : n ≤ 26) (hd : d < 4 ^ n) : Cv.qok n d = true := by
  unfold Cv.qok; exact decide_eq_true (by rw [Int.toNat_natCast]; omega)
theorem Cv.px_nat (n d : Nat) (hn : n ≤ 26) (hd : d < 4 ^ n) : Cv.px n d = ((Cv.point n d).1 : Int) ∧ Cv.py n d = ((Cv.point n d).2 : Int) := by
  unfold Cv.px Cv.py
  rw [if_pos (Cv.q_mk n d hn hd), if_pos (Cv.q_mk n d hn hd), Int.toNat_natCast, Int.toNat_natCast]
  exact ⟨rfl, rfl⟩

theorem Cv.back_in {z x y : Int} (h : Cv.okB z x y = true) : Cv.qok z (Cv.pv z x y) = true ∧ Cv.px z (Cv.pv z x y) = x ∧ Cv.py z (Cv.pv z x y) = y := by
  obtain ⟨n, a, b, rfl, rfl, rfl, hn, ha, hb⟩ := Cv.ok_nat h
  have hl := Cv.place_lt n a b ha hb
  rw [Cv.pv_nat n a b hn ha hb]
  obtain ⟨h1, h2⟩ := Cv.px_nat n _ hn hl
  rw [h1, h2, Cv.point_place n a b ha hb]
  exact ⟨Cv.q_mk n _ hn hl, rfl, rfl⟩
theorem Cv.back_of {z d : Int} (h : Cv.qok z d = true) (hd : 0 ≤ d) : Cv.okB z (Cv.px z d) (Cv.py z d) = true ∧ Cv.pv z (Cv.px z d) (Cv.py z d) = d := by
  obtain ⟨hz, hlt⟩ := Cv.q_in h
  obtain ⟨n, rfl⟩ := Int.eq_ofNat_of_zero_le hz.1
  obtain ⟨m, rfl⟩ := Int.eq_ofNat_of_zero_le hd
  rw [Int.toNat_natCast] at hlt
  have hn : n ≤ 26 := by omega
  have hm : m < 4 ^ n := by omega
  obtain ⟨h1, h2⟩ := Cv.px_nat n m hn hm
  have hl := Cv.point_lt n m
  rw [h1, h2, Cv.pv_nat n _ _ hn hl.1 hl.2, Cv.place_point n m hm]
  exact ⟨Cv.ok_mk n _ _ hn hl.1 hl.2, rfl⟩

theorem Cv.steps_in {z x y : Int} (h : Cv.okB z x y = true) (k : Cv.qok z (Cv.pv z x y + 1) = true) :
    Cv.okB z (Cv.nx z x y) (Cv.ny z x y) = true ∧ Cv.pv z (Cv.nx z x y) (Cv.ny z x y) = Cv.pv z x y + 1 ∧
      ((Cv.wrth (Cv.nx z x y - x) = 0 ∧ Cv.wrth (Cv.ny z x y - y) = 1) ∨ (Cv.wrth (Cv.nx z x y - x) = 1 ∧ Cv.wrth (Cv.ny z x y - y) = 0)) := by
  have e1 : Cv.nx z x y = Cv.px z (Cv.pv z x y + 1) := by unfold Cv.nx Cv.nok; rw [h, k]; rfl
  have e2 : Cv.ny z x y = Cv.py z (Cv.pv z x y + 1) := by unfold Cv.ny Cv.nok; rw [h, k]; rfl
  have hb := Cv.pv_bd z x y
  obtain ⟨b1, b2⟩ := Cv.back_of k (by omega)
  rw [e1, e2]
  refine ⟨b1, b2, ?_⟩
  obtain ⟨n, a, b, rfl, rfl, rfl, hn, ha, hb⟩ := Cv.ok_nat h
  have hq := (Cv.q_in k).2
  rw [Cv.pv_nat n a b hn ha hb, Int.toNat_natCast] at hq
  have hlt : Cv.place n a b + 1 < 4 ^ n := by omega
  have hs := Cv.steps n (Cv.place n a b) hlt
  rw [Cv.point_place n a b ha hb] at hs
  have e3 : Cv.pv n a b + 1 = ((Cv.place n a b + 1 : Nat) : Int) := by rw [Cv.pv_nat n a b hn ha hb]; omega
  obtain ⟨h1, h2⟩ := Cv.px_nat n _ hn hlt
  rw [e3, h1, h2]
  generalize Cv.point n (Cv.place n a b + 1) = q at hs ⊢
  unfold Cv.near at hs
  dsimp only at hs
  unfold Cv.wrth
  omega

theorem Cv.steps_end {z x y : Int} (h : Cv.okB z x y = true) (k : Cv.qok z (Cv.pv z x y + 1) = false) : y = 0 ∧ x = Cv.side z - 1 := by
  obtain ⟨n, a, b, rfl, rfl, rfl, hn, ha, hb⟩ := Cv.ok_nat h
  have hq := Cv.q_out k (by omega)
  rw [Cv.pv_nat n a b hn ha hb, Int.toNat_natCast] at hq
  have hl := Cv.place_last n a b ha hb (by omega)
  rw [Cv.side_in n (by omega), Int.toNat_natCast]
  have hp := Cv.pow_pos2 n
  omega

theorem Cv.up_in {z x y : Int} (h : Cv.okB z x y = true) (hz : 0 < z) : Cv.okB (z - 1) (x / 2) (y / 2) = true ∧ Cv.pv (z - 1) (x / 2) (y / 2) = Cv.pv z x y / 4 := by
  obtain ⟨n, a, b, rfl, rfl, rfl, hn, ha, hb⟩ := Cv.ok_nat h
  obtain ⟨m, rfl⟩ : ∃ m, n = m + 1 := ⟨n - 1, by omega⟩
  have h2 := Cv.two_succ m
  have e1 : ((m + 1 : Nat) : Int) - 1 = (m : Int) := by omega
  have e2 : (a : Int) / 2 = ((a / 2 : Nat) : Int) := by omega
  have e3 : (b : Int) / 2 = ((b / 2 : Nat) : Int) := by omega
  rw [e1, e2, e3, Cv.pv_nat m _ _ (by omega) (by omega) (by omega), Cv.pv_nat (m + 1) a b hn ha hb, Cv.place_up m a b ha hb]
  exact ⟨Cv.ok_mk m _ _ (by omega) (by omega) (by omega), by omega⟩

theorem Cv.kid_in {z x y : Int} (h : Cv.okB z x y = true) (hz : z < 26) (k : Nat) (hk : k < 4) :
    Cv.okB (z + 1) (2 * x + (k : Int) % 2) (2 * y + (k : Int) / 2) = true ∧ Cv.pv (z + 1) (2 * x + (k : Int) % 2) (2 * y + (k : Int) / 2) / 4 = Cv.pv z x y ∧
      Cv.pv (z + 1) (2 * x + (k : Int) % 2) (2 * y + (k : Int) / 2) % 4 = (Cv.kq z.toNat x.toNat y.toNat k : Int) := by
  obtain ⟨n, a, b, rfl, rfl, rfl, hn, ha, hb⟩ := Cv.ok_nat h
  have hl := Cv.kid_lt n a b k ha hb hk
  have he := Cv.kid_eq n a b k ha hb hk
  have hq := Cv.kq_lt n a b k
  have e1 : ((n : Nat) : Int) + 1 = ((n + 1 : Nat) : Int) := by omega
  have e2 : 2 * (a : Int) + (k : Int) % 2 = ((2 * a + k % 2 : Nat) : Int) := by omega
  have e3 : 2 * (b : Int) + (k : Int) / 2 = ((2 * b + k / 2 : Nat) : Int) := by omega
  unfold Cv.kid at hl he
  dsimp only at hl he
  rw [e1, e2, e3, Cv.pv_nat (n + 1) _ _ (by omega) hl.1 hl.2, Cv.pv_nat n a b hn ha hb, he, Int.toNat_natCast, Int.toNat_natCast, Int.toNat_natCast]
  exact ⟨Cv.ok_mk (n + 1) _ _ (by omega) hl.1 hl.2, by omega, by omega⟩

end Go.Proofs.YtdipincjginmcaaDoor
