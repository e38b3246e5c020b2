/- The walks of tileid's and the document's base, Base, Zoom. -/
import Derived.Test.YtdipincjginmcaaDoorCurveFacts
namespace Go.Proofs.YtdipincjginmcaaDoor
open Go.RowKit

def Cv.bv (z : Int) : Int := if 0 ≤ z ∧ z ≤ 27 then ((Cv.bs z.toNat : Nat) : Int) else 0
def Cv.be (z : Int) : Int := if 0 ≤ z ∧ z ≤ 27 then 0 else 2
def Cv.zv (id : Int) : Int := if id < 6004799503160661 then ((Cv.zm id.toNat : Nat) : Int) else -1

theorem Cv.bs27 : Cv.bs 27 = 6004799503160661 := by decide
theorem Cv.bv_nat (n : Nat) (h : n ≤ 27) : Cv.bv n = (Cv.bs n : Int) := by unfold Cv.bv; rw [if_pos (by omega), Int.toNat_natCast]
theorem Cv.bv_bd (z : Int) : 0 ≤ Cv.bv z ∧ Cv.bv z ≤ 6004799503160661 := by
  unfold Cv.bv
  split
  · have h := Cv.bs_le z.toNat 27 (by omega)
    rw [Cv.bs27] at h
    omega
  · omega
theorem four27 (n : Nat) (hn : n ≤ 27) : 4 ^ n ≤ 18014398509481984 := by
  have h : 4 ^ n ≤ 4 ^ 27 := Nat.pow_le_pow_right (by omega) hn
  have h4 : (4 : Nat) ^ 27 = 18014398509481984 := by decide
  omega

theorem base_any (z : Int) (h0 : 0 ≤ z) (h1 : z ≤ 27) (w : World) :
    Calls Tryd.prog 33 #[.int .i64 z] w fun e w' => e = .returned (.int .u64 (Cv.bv z)) ∧ w = w' := by
  obtain ⟨m, rfl⟩ := Int.eq_ofNat_of_zero_le h0
  have hm : m ≤ 27 := by omega
  rw [Cv.bv_nat m hm]
  obtain ⟨Q, hQ⟩ : ∃ Q : Nat, Q = 4 ^ m := ⟨_, rfl⟩
  have hQ1 : 1 ≤ Q := by rw [hQ]; exact Cv.pow_pos4 m
  have hQ2 : Q ≤ 18014398509481984 := by rw [hQ]; exact four27 m hm
  have hq : IntKind.u64.wrap ((2 : Int) ^ (2 * m)) = (Q : Int) := by
    rw [u64pow (2 * m) (by omega), Nat.pow_mul, hQ]
  have hb := Cv.bs3 m
  rw [← hQ] at hb
  have HB := Lib.hid hb
  clear hb hQ
  go_enter Tryd.func33, Tryd.ntmps33
  go_wp2_with fail
  go_ret
  exact ⟨ret1 (by have := HB.out; omega), rfl⟩

theorem refBase_any (z : Int) (w : World) :
    Calls Tryd.prog 35 #[.int .i64 z] w fun e w' => e = .returned (.tuple #[.int .u64 (Cv.bv z), .int .i64 (Cv.be z)]) ∧ w = w' := by
  by_cases h0 : z < 0
  · have e1 : Cv.bv z = 0 := by unfold Cv.bv; rw [if_neg (by omega)]
    have e2 : Cv.be z = 2 := by unfold Cv.be; rw [if_neg (by omega)]
    rw [e1, e2]
    go_enter Tryd.func35, Tryd.ntmps35
    go_wp2_with fail
    go_ret2
    exact ⟨rfl, rfl⟩
  · by_cases h1 : 27 < z
    · have e1 : Cv.bv z = 0 := by unfold Cv.bv; rw [if_neg (by omega)]
      have e2 : Cv.be z = 2 := by unfold Cv.be; rw [if_neg (by omega)]
      rw [e1, e2]
      go_enter Tryd.func35, Tryd.ntmps35
      go_wp2_with fail
      go_ret2
      exact ⟨rfl, rfl⟩
    · have e2 : Cv.be z = 0 := by unfold Cv.be; rw [if_pos (by omega)]
      rw [e2]
      have h0' : 0 ≤ z := by omega
      obtain ⟨m, rfl⟩ := Int.eq_ofNat_of_zero_le h0'
      have hm : m ≤ 27 := by omega
      rw [Cv.bv_nat m hm]
      clear h0 h1 e2 h0'
      go_enter Tryd.func35, Tryd.ntmps35
      go_wp2_with fail
      go_loop [4, 5, 6] (fun cn ca ci => ∃ k n a : Nat, k ≤ m ∧ ci = .int .i64 k ∧ cn = .int .u64 n ∧ ca = .int .u64 a ∧ n = 4 ^ k ∧ a = Cv.bs k) (fun _ _ ci => m - (intOf ci).toNat)
      case atStart => exact ⟨0, 1, 0, Nat.zero_le _, rfl, rfl, rfl, rfl, rfl⟩
      case round =>
        obtain ⟨k, n, a, hk, rfl, rfl, rfl, hn, ha⟩ := hrel
        have hn1 : n ≤ 18014398509481984 := by rw [hn]; exact four27 k (by omega)
        have ha1 : a ≤ 6004799503160661 := by rw [ha]; have := Cv.bs_le k 27 (by omega); rw [Cv.bs27] at this; exact this
        by_cases hlt : k < m
        · have hnew : 4 * n = 4 ^ (k + 1) ∧ a + n = Cv.bs (k + 1) := by rw [Cv.four_succ, Cv.bs_succ, hn, ha]; exact ⟨rfl, rfl⟩
          have HN := Lib.hid hnew
          clear hn ha hnew
          go_wp2_with fail
          go_round
          case rel => exact ⟨k + 1, 4 * n, a + n, by omega, by go_num, by go_num, by go_num, HN.out⟩
          case measure => simp [intOf]; omega
        · have hkm : k = m := by omega
          have he : (a : Int) = (Cv.bs m : Int) := by rw [ha, hkm]
          have HE := Lib.hid he
          clear hn ha hkm he
          go_wp2_with fail
          go_ret2
          exact ⟨ret2 HE.out rfl, rfl⟩

end Go.Proofs.YtdipincjginmcaaDoor
