/- The walks of tileid's and the document's base, Base, Zoom. -/
import Derived.Test.YtdipincjginmcaaShelf
import Derived.Test.YtdipincjginmcaaCurveFacts
namespace Go.Proofs.Ytdipincjginmcaa
open Go.RowKit

def Cv.bv (z : Int) : Int := if 0 ≤ z ∧ z ≤ 27 then ((Cv.bs z.toNat : Nat) : Int) else 0
def Cv.be (z : Int) : Int := if 0 ≤ z ∧ z ≤ 27 then 0 else 2
def Cv.zv (id : Int) : Int := if id < 6004799503160661 then ((Cv.zm id.toNat : Nat) : Int) else -1

theorem Cv.bs27 : Cv.bs 27 = 6004799503160661 := by decide
theorem Cv.bv_nat (n : Nat) (h : n ≤ 27) : Cv.bv n = (Cv.bs n : Int) := by unfold Cv.bv; rw [if_pos (by omega), Int.toNat_natCast]
theorem Cv.bv_bd (z : Int) : 0 ≤ Cv.bv z ∧ Cv.bv z ≤ 6004799503160661 := by
  unfold Cv.bv
  split
  · have h := Cv.bs_le z.toNat 27 (by omega)
    rw [Cv.bs27] at h
    omega
  · omega
theorem four27 (n : Nat) (hn : n ≤ 27) : 4 ^ n ≤ 18014398509481984 := by
  have h : 4 ^ n ≤ 4 ^ 27 := Nat.pow_le_pow_right (by omega) hn
  have h4 : (4 : Nat) ^ 27 = 18014398509481984 := by decide
  omega

theorem base_any (z : Int) (h0 : 0 ≤ z) (h1 : z ≤ 27) (w : World) :
    Calls Try.prog 47 #[.int .i64 z] w fun e w' => e = .returned (.int .u64 (Cv.bv z)) ∧ w = w' := by
  obtain ⟨m, rfl⟩ := Int.eq_ofNat_of_zero_le h0
  have hm : m ≤ 27 := by omega
  rw [Cv.bv_nat m hm]
  obtain ⟨Q, hQ⟩ : ∃ Q : Nat, Q = 4 ^ m := ⟨_, rfl⟩
  have hQ1 : 1 ≤ Q := by rw [hQ]; exact Cv.pow_pos4 m
  have hQ2 : Q ≤ 18014398509481984 := by rw [hQ]; exact four27 m hm
  have hq : IntKind.u64.wrap ((2 : Int) ^ (2 * m)) = (Q : Int) := by
    rw [u64pow (2 * m) (by omega), Nat.pow_mul, hQ]
  have hb := Cv.bs3 m
  rw [← hQ] at hb
  have HB := Lib.hid hb
  clear hb hQ
  go_enter Try.func47, Try.ntmps47
  go_wp2_with fail
  go_ret
  exact ⟨ret1 (by have := HB.out; omega), rfl⟩

theorem Base_any (z : Int) (w : World) :
    Calls Try.prog 27 #[.int .i64 z] w fun e w' => e = .returned (.tuple #[.int .u64 (Cv.bv z), .int .i64 (Cv.be z)]) ∧ w = w' := by
  by_cases h0 : z < 0
  · have e1 : Cv.bv z = 0 := by unfold Cv.bv; rw [if_neg (by omega)]
    have e2 : Cv.be z = 2 := by unfold Cv.be; rw [if_neg (by omega)]
    rw [e1, e2]
    go_enter Try.func27, Try.ntmps27
    go_wp2_with fail
    go_ret2
    exact ⟨rfl, rfl⟩
  · by_cases h1 : 27 < z
    · have e1 : Cv.bv z = 0 := by unfold Cv.bv; rw [if_neg (by omega)]
      have e2 : Cv.be z = 2 := by unfold Cv.be; rw [if_neg (by omega)]
      rw [e1, e2]
      go_enter Try.func27, Try.ntmps27
      go_wp2_with fail
      go_ret2
      exact ⟨rfl, rfl⟩
    · have e2 : Cv.be z = 0 := by unfold Cv.be; rw [if_pos (by omega)]
      rw [e2]
      have h0' : 0 ≤ z := by omega
      have h1' : z ≤ 27 := by omega
      clear h0 h1 e2
      go_enter Try.func27, Try.ntmps27
      go_wp2_with fail
      refine (base_any _ h0' h1' _).mono ?_; rintro e w1 ⟨rfl, rfl⟩
      go_wp2_with fail
      go_ret2
      exact ⟨rfl, rfl⟩

theorem refBase_any (z : Int) (w : World) :
    Calls Try.prog 28 #[.int .i64 z] w fun e w' => e = .returned (.tuple #[.int .u64 (Cv.bv z), .int .i64 (Cv.be z)]) ∧ w = w' := by
  by_cases h0 : z < 0
  · have e1 : Cv.bv z = 0 := by unfold Cv.bv; rw [if_neg (by omega)]
    have e2 : Cv.be z = 2 := by unfold Cv.be; rw [if_neg (by omega)]
    rw [e1, e2]
    go_enter Try.func28, Try.ntmps28
    go_wp2_with fail
    go_ret2
    exact ⟨rfl, rfl⟩
  · by_cases h1 : 27 < z
    · have e1 : Cv.bv z = 0 := by unfold Cv.bv; rw [if_neg (by omega)]
      have e2 : Cv.be z = 2 := by unfold Cv.be; rw [if_neg (by omega)]
      rw [e1, e2]
      go_enter Try.func28, Try.ntmps28
      go_wp2_with fail
      go_ret2
      exact ⟨rfl, rfl⟩
    · have e2 : Cv.be z = 0 := by unfold Cv.be; rw [if_pos (by omega)]
      rw [e2]
      have h0' : 0 ≤ z := by omega
      obtain ⟨m, rfl⟩ := Int.eq_ofNat_of_zero_le h0'
      have hm : m ≤ 27 := by omega
      rw [Cv.bv_nat m hm]
      clear h0 h1 e2 h0'
      go_enter Try.func28, Try.ntmps28
      go_wp2_with fail
      go_loop [4, 5, 6] (fun cn ca ci => ∃ k n a : Nat, k ≤ m ∧ ci = .int .i64 k ∧ cn = .int .u64 n ∧ ca = .int .u64 a ∧ n = 4 ^ k ∧ a = Cv.bs k) (fun _ _ ci => m - (intOf ci).toNat)
      case atStart => exact ⟨0, 1, 0, Nat.zero_le _, rfl, rfl, rfl, rfl, rfl⟩
      case round =>
        obtain ⟨k, n, a, hk, rfl, rfl, rfl, hn, ha⟩ := hrel
        have hn1 : n ≤ 18014398509481984 := by rw [hn]; exact four27 k (by omega)
        have ha1 : a ≤ 6004799503160661 := by rw [ha]; have := Cv.bs_le k 27 (by omega); rw [Cv.bs27] at this; exact this
        by_cases hlt : k < m
        · have hnew : 4 * n = 4 ^ (k + 1) ∧ a + n = Cv.bs (k + 1) := by rw [Cv.four_succ, Cv.bs_succ, hn, ha]; exact ⟨rfl, rfl⟩
          have HN := Lib.hid hnew
          clear hn ha hnew
          go_wp2_with fail
          go_round
          case rel => exact ⟨k + 1, 4 * n, a + n, by omega, by go_num, by go_num, by go_num, HN.out⟩
          case measure => simp [intOf]; omega
        · have hkm : k = m := by omega
          have he : (a : Int) = (Cv.bs m : Int) := by rw [ha, hkm]
          have HE := Lib.hid he
          clear hn ha hkm he
          go_wp2_with fail
          go_ret2
          exact ⟨ret2 HE.out rfl, rfl⟩

theorem bitLenAux_log (f : Nat) : ∀ x, 0 < x → x < 2 ^ f → Lib.bitLenAux f x = x.log2 + 1 := by
  induction f with
  | zero => intro x h1 h2; simp at h2; omega
  | succ f ih =>
    intro x h1 h2
    rw [Lib.bitLenAux, if_neg (by omega)]
    rcases Nat.lt_or_ge x 2 with h | h
    · have : x = 1 := by omega
      subst this
      cases f with
      | zero => rfl
      | succ f => rfl
    · rw [ih (x / 2) (by omega) (by rw [Nat.pow_succ] at h2; omega), Nat.log2_def x, if_pos h]
      omega
theorem bitLen_log (x : Nat) (h0 : 0 < x) (h1 : x < 18446744073709551616) : Lib.bitLen x = x.log2 + 1 := bitLenAux_log 64 x h0 (by simpa using h1)

theorem zoom_any (id : Int) (h0 : 0 ≤ id) (w : World) :
    Calls Try.prog 29 #[.int .u64 id] w fun e w' => e = .returned (.int .i64 (Cv.zv id)) ∧ w = w' := by
  by_cases h1 : id < 6004799503160661
  · have e1 : Cv.zv id = ((Cv.zm id.toNat : Nat) : Int) := by unfold Cv.zv; rw [if_pos h1]
    rw [e1]
    obtain ⟨L, hL⟩ : ∃ L, L = (3 * id.toNat + 1).log2 := ⟨_, rfl⟩
    have hl := bitLen_log (3 * id.toNat + 1) (by omega) (by omega)
    rw [← hL] at hl
    have hz := Cv.zm_le id.toNat (by rw [Cv.bs27]; omega)
    have hzm : Cv.zm id.toNat = L / 2 := by rw [hL]; rfl
    have hL2 : L ≤ 60 := by omega
    have hc := fun w => (Try.bits_Len64 (3 * id + 1) w (by omega) (by omega))
    rw [show (3 * id + 1).toNat = 3 * id.toNat + 1 by omega, hl] at hc
    have HZ := Lib.hid hzm
    have HC := Lib.hid hc
    clear hl hL hzm hz e1 hc
    go_enter Try.func29, Try.ntmps29
    go_wp2_with fail
    refine (HC.out _).mono ?_; rintro e w1 ⟨rfl, rfl⟩
    go_wp2_with fail
    go_ret
    exact ⟨ret1 (by rw [HZ.out]; omega), rfl⟩
  · have e1 : Cv.zv id = -1 := by unfold Cv.zv; rw [if_neg h1]
    rw [e1]
    go_enter Try.func29, Try.ntmps29
    go_wp2_with fail
    go_ret
    exact ⟨rfl, rfl⟩

theorem refzoom_any (id : Int) (h0 : 0 ≤ id) (w : World) :
    Calls Try.prog 30 #[.int .u64 id] w fun e w' => e = .returned (.int .i64 (Cv.zv id)) ∧ w = w' := by
  go_enter Try.func30, Try.ntmps30
  go_wp2_with fail
  go_loop [3] (fun cz => ∃ k : Int, -1 ≤ k ∧ k ≤ 26 ∧ cz = .int .i64 k ∧ (id < 6004799503160661 → ((Cv.zm id.toNat : Nat) : Int) ≤ k)) (fun cz => (intOf cz + 1).toNat)
  case atStart => exact ⟨26, by omega, by omega, rfl, fun h => by have := Cv.zm_le id.toNat (by rw [Cv.bs27]; omega); omega⟩
  case round =>
    obtain ⟨k, hk0, hk1, rfl, hz⟩ := hrel
    by_cases hlt : 0 ≤ k
    · have b1 : Cv.bv k = ((Cv.bs k.toNat : Nat) : Int) := by unfold Cv.bv; rw [if_pos (by omega)]
      have b2 : Cv.bv (k + 1) = ((Cv.bs (k.toNat + 1) : Nat) : Int) := by unfold Cv.bv; rw [if_pos (by omega), show (k + 1).toNat = k.toNat + 1 by omega]
      have hzs := Cv.zm_spec id.toNat
      by_cases c1 : Cv.bv k ≤ id
      · by_cases c2 : id < Cv.bv (k + 1)
        · have hb := Cv.bv_bd (k + 1)
          have he : k = Cv.zv id := by
            have h1 := Cv.zm_of k.toNat id.toNat (by omega) (by omega)
            unfold Cv.zv
            rw [if_pos (by omega), h1]
            omega
          have HE := Lib.hid he
          clear he b1 b2 hzs hz hb
          go_wp2_with fail
          refine (refBase_any _ _).mono ?_; rintro e w1 ⟨rfl, rfl⟩
          go_wp2_with fail
          refine (refBase_any _ _).mono ?_; rintro e w1 ⟨rfl, rfl⟩
          go_wp2_with fail
          go_ret
          exact ⟨ret1 HE.out, rfl⟩
        · have hz2 : id < 6004799503160661 → ((Cv.zm id.toNat : Nat) : Int) ≤ k - 1 := by
            intro h
            have h3 := hz h
            rcases Int.lt_or_le ((Cv.zm id.toNat : Nat) : Int) k with h4 | h4
            · omega
            · have h5 : Cv.zm id.toNat = k.toNat := by omega
              rw [h5] at hzs
              omega
          have HZ := Lib.hid hz2
          clear hz hz2 b1 b2 hzs
          go_wp2_with fail
          refine (refBase_any _ _).mono ?_; rintro e w1 ⟨rfl, rfl⟩
          go_wp2_with fail
          refine (refBase_any _ _).mono ?_; rintro e w1 ⟨rfl, rfl⟩
          go_wp2_with fail
          go_round
          case rel => exact ⟨k - 1, by omega, by omega, rfl, HZ.out⟩
          case measure => simp [intOf]; omega
      · have hz2 : id < 6004799503160661 → ((Cv.zm id.toNat : Nat) : Int) ≤ k - 1 := by
          intro h
          have h3 := hz h
          rcases Int.lt_or_le ((Cv.zm id.toNat : Nat) : Int) k with h4 | h4
          · omega
          · have h5 : Cv.zm id.toNat = k.toNat := by omega
            rw [h5] at hzs
            omega
        have HZ := Lib.hid hz2
        clear hz hz2 b1 b2 hzs
        go_wp2_with fail
        refine (refBase_any _ _).mono ?_; rintro e w1 ⟨rfl, rfl⟩
        go_wp2_with fail
        refine (refBase_any _ _).mono ?_; rintro e w1 ⟨rfl, rfl⟩
        go_wp2_with fail
        go_round
        case rel => exact ⟨k - 1, by omega, by omega, rfl, HZ.out⟩
        case measure => simp [intOf]; omega
    · have he : -1 = Cv.zv id := by
        unfold Cv.zv
        rw [if_neg (fun h => by have := hz h; omega)]
      have HE := Lib.hid he
      clear he hz
      go_wp2_with fail
      go_ret
      exact ⟨ret1 HE.out, rfl⟩

end Go.Proofs.Ytdipincjginmcaa
