/- Plain laws of identifiers at ints. -/
import Derived.Test.YtdipincjginmcaaDoorTileAwake
namespace Go.Proofs.YtdipincjginmcaaDoor
open Go.RowKit

theorem Cv.tid_nat (n a b : Nat) (hn : n ≤ 26) (ha : a < 2 ^ n) (hb : b < 2 ^ n) : Cv.tid n a b = (Cv.idn n a b : Int) := by
  rw [Cv.tid_ok (Cv.ok_mk n a b hn ha hb), Cv.pv_nat n a b hn ha hb, Cv.bv_nat n (by omega)]
  unfold Cv.idn
  omega
theorem Cv.zv_nat (m : Nat) (h : m < Cv.bs 27) : Cv.zv m = (Cv.zm m : Int) := by
  rw [Cv.bs27] at h
  unfold Cv.zv
  rw [if_pos (by omega), Int.toNat_natCast]
theorem Cv.of_nat (m : Nat) (h : m < Cv.bs 27) : Cv.oz m = (Cv.zm m : Int) ∧ Cv.ox m = ((Cv.ofn m).1 : Int) ∧ Cv.oy m = ((Cv.ofn m).2 : Int) ∧ Cv.oe m = 0 := by
  have hz := Cv.zm_le m h
  have hs := Cv.zm_spec m
  have hzv := Cv.zv_nat m h
  rw [Cv.bs27] at h
  have hlt : (m : Int) < 6004799503160661 := by omega
  have e : (m : Int) - Cv.bv (Cv.zv m) = ((m - Cv.bs (Cv.zm m) : Nat) : Int) := by rw [hzv, Cv.bv_nat _ (by omega)]; omega
  have hq : m - Cv.bs (Cv.zm m) < 4 ^ Cv.zm m := by rw [Cv.bs_succ] at hs; omega
  obtain ⟨h1, h2⟩ := Cv.px_nat (Cv.zm m) _ hz hq
  unfold Cv.oz Cv.ox Cv.oy Cv.oe
  rw [if_pos hlt, if_pos hlt, if_pos hlt, if_pos hlt, e, hzv, h1, h2]
  exact ⟨rfl, rfl, rfl, rfl⟩

theorem Cv.of_tid {z x y : Int} (h : Cv.okB z x y = true) : 0 ≤ Cv.tid z x y ∧ Cv.tid z x y < 6004799503160661 ∧ Cv.oz (Cv.tid z x y) = z ∧ Cv.ox (Cv.tid z x y) = x ∧ Cv.oy (Cv.tid z x y) = y ∧ Cv.oe (Cv.tid z x y) = 0 ∧ Cv.zv (Cv.tid z x y) = z := by
  obtain ⟨n, a, b, rfl, rfl, rfl, hn, ha, hb⟩ := Cv.ok_nat h
  rw [Cv.tid_nat n a b hn ha hb]
  have hc := Cv.idn_count n a b hn ha hb
  obtain ⟨h1, h2, h3, h4⟩ := Cv.of_nat _ hc
  rw [h1, h2, h3, h4, Cv.zv_nat _ hc, Cv.zm_idn n a b ha hb, Cv.ofn_idn n a b ha hb]
  rw [Cv.bs27] at hc
  exact ⟨by omega, by omega, rfl, rfl, rfl, rfl, rfl⟩
theorem Cv.tid_of {id : Int} (h0 : 0 ≤ id) (h : id < 6004799503160661) : Cv.okB (Cv.oz id) (Cv.ox id) (Cv.oy id) = true ∧ Cv.tid (Cv.oz id) (Cv.ox id) (Cv.oy id) = id ∧ Cv.oe id = 0 := by
  obtain ⟨m, rfl⟩ := Int.eq_ofNat_of_zero_le h0
  have hc : m < Cv.bs 27 := by rw [Cv.bs27]; omega
  obtain ⟨h1, h2, h3, h4⟩ := Cv.of_nat m hc
  have hl := Cv.ofn_lt m
  have hz := Cv.zm_le m hc
  rw [h1, h2, h3, h4, Cv.tid_nat _ _ _ hz hl.1 hl.2, Cv.idn_ofn m]
  exact ⟨Cv.ok_mk _ _ _ hz hl.1 hl.2, rfl, rfl⟩
theorem Cv.tid_eq {z x y z' x' y' : Int} (h : Cv.okB z x y = true) (k : Cv.okB z' x' y' = true) : (Cv.tid z x y == Cv.tid z' x' y') = Cv.teq z x y z' x' y' := by
  obtain ⟨_, _, h1, h2, h3, _⟩ := Cv.of_tid h
  obtain ⟨_, _, k1, k2, k3, _⟩ := Cv.of_tid k
  rw [Bool.eq_iff_iff]
  unfold Cv.teq
  simp only [Bool.and_eq_true, beq_iff_eq]
  constructor
  · intro e
    rw [e] at h1 h2 h3
    exact ⟨⟨h1.symm.trans k1, h2.symm.trans k2⟩, h3.symm.trans k3⟩
  · rintro ⟨⟨rfl, rfl⟩, rfl⟩
    rfl
theorem Cv.tid_lower {z x y z' x' y' : Int} (h : Cv.okB z x y = true) (k : Cv.okB z' x' y' = true) (c : z < z') : Cv.tid z x y < Cv.tid z' x' y' := by
  obtain ⟨n, a, b, rfl, rfl, rfl, hn, ha, hb⟩ := Cv.ok_nat h
  obtain ⟨n', a', b', rfl, rfl, rfl, hn', ha', hb'⟩ := Cv.ok_nat k
  rw [Cv.tid_nat n a b hn ha hb, Cv.tid_nat n' a' b' hn' ha' hb']
  have := Cv.idn_lower n a b n' a' b' ha hb ha' hb' (by omega)
  omega

/-- what is told of a tile at k zooms below, by naturals -/
theorem Cv.rng_nat (n a b k : Nat) (hk : n + k ≤ 26) (ha : a < 2 ^ n) (hb : b < 2 ^ n) :
    Cv.rf n a b ((n + k : Nat) : Int) = ((Cv.bs (n + k) + Cv.place n a b * 4 ^ k : Nat) : Int) ∧ Cv.rt n a b ((n + k : Nat) : Int) = ((Cv.bs (n + k) + Cv.place n a b * 4 ^ k + 4 ^ k - 1 : Nat) : Int) ∧
      Cv.place n a b * 4 ^ k + 4 ^ k ≤ 4 ^ (n + k) := by
  have hB : Cv.rB n a b ((n + k : Nat) : Int) = true := by unfold Cv.rB; rw [Cv.ok_mk n a b (by omega) ha hb, decide_eq_true (by omega)]; rfl
  have h3 : (Cv.place n a b + 1) * 4 ^ k ≤ 4 ^ n * 4 ^ k := Nat.mul_le_mul_right _ (Cv.place_lt n a b ha hb)
  rw [← Nat.pow_add, Nat.add_mul, Nat.one_mul] at h3
  have e : (((n + k : Nat) : Int) - (n : Int)).toNat = k := by omega
  have e1 : Cv.rf n a b ((n + k : Nat) : Int) = ((Cv.bs (n + k) + Cv.place n a b * 4 ^ k : Nat) : Int) := by
    unfold Cv.rf
    rw [if_pos hB, e, Cv.pv_nat n a b (by omega) ha hb, Cv.bv_nat (n + k) (by omega), Int.natCast_add, Int.natCast_mul]
  refine ⟨e1, ?_, h3⟩
  unfold Cv.rt
  rw [if_pos hB, e, e1]
  have := Cv.pow_pos4 k
  omega
theorem Cv.rng_zoom {tz tx ty z : Int} (h : Cv.okB tz tx ty = true) (c : tz ≤ z) (c2 : z ≤ 26) :
    (0 ≤ Cv.rf tz tx ty z ∧ Cv.rf tz tx ty z ≤ 18014398509481984 ∧ 0 ≤ Cv.rt tz tx ty z ∧ Cv.rt tz tx ty z ≤ 18014398509481984) ∧ Cv.zv (Cv.rf tz tx ty z) = z ∧ Cv.zv (Cv.rt tz tx ty z) = z ∧ Cv.rt tz tx ty z - Cv.rf tz tx ty z + 1 = ((4 ^ (z - tz).toNat : Nat) : Int) := by
  obtain ⟨n, a, b, rfl, rfl, rfl, hn, ha, hb⟩ := Cv.ok_nat h
  obtain ⟨m, rfl⟩ := Int.eq_ofNat_of_zero_le (show 0 ≤ z by omega)
  obtain ⟨k, rfl⟩ : ∃ k, m = n + k := ⟨m - n, by omega⟩
  obtain ⟨h1, h2, h3⟩ := Cv.rng_nat n a b k (by omega) ha hb
  have h4 := Cv.pow_pos4 k
  have h5 := Cv.bs_le (n + k + 1) 27 (by omega)
  have h6 := Cv.bs27
  have h7 := Cv.bs_succ (n + k)
  rw [h1, h2, Cv.zv_nat _ (by omega), Cv.zv_nat _ (by omega), Cv.zm_of (n + k) _ (by omega) (by omega), Cv.zm_of (n + k) _ (by omega) (by omega), show (((n + k : Nat) : Int) - (n : Int)).toNat = k by omega]
  exact ⟨by omega, rfl, rfl, by omega⟩
theorem Cv.rng_over {tz tx ty sz sx sy : Int} (h : Cv.okB tz tx ty = true) (k : Cv.okB sz sx sy = true) (c : tz ≤ sz) :
    Cv.ovB tz tx ty sz sx sy = (decide (Cv.rf tz tx ty sz ≤ Cv.tid sz sx sy) && decide (Cv.tid sz sx sy ≤ Cv.rt tz tx ty sz)) := by
  have hov : Cv.ovB tz tx ty sz sx sy = Cv.teq tz (sx / 2 ^ (sz - tz).toNat) (sy / 2 ^ (sz - tz).toNat) tz tx ty := by unfold Cv.ovB; rw [h, k, decide_eq_true c]; rfl
  rw [hov]
  clear hov
  obtain ⟨n, a, b, rfl, rfl, rfl, hn, ha, hb⟩ := Cv.ok_nat h
  obtain ⟨m, p, q, rfl, rfl, rfl, hm, hp, hq⟩ := Cv.ok_nat k
  obtain ⟨j, rfl⟩ : ∃ j, m = n + j := ⟨m - n, by omega⟩
  obtain ⟨h1, h2, h3⟩ := Cv.rng_nat n a b j (by omega) ha hb
  have ho := Cv.over_iff n j a b p q ha hb hp hq
  have h4 := Cv.pow_pos4 j
  rw [h1, h2, Cv.tid_nat (n + j) p q hm hp hq, show (((n + j : Nat) : Int) - (n : Int)).toNat = j by omega]
  have e1 : (p : Int) / 2 ^ j = ((p / 2 ^ j : Nat) : Int) := by simp
  have e2 : (q : Int) / 2 ^ j = ((q / 2 ^ j : Nat) : Int) := by simp
  rw [e1, e2, Bool.eq_iff_iff]
  unfold Cv.teq Cv.idn
  simp only [Bool.and_eq_true, beq_iff_eq, decide_eq_true_eq, true_and]
  generalize p / 2 ^ j = p' at ho ⊢
  generalize q / 2 ^ j = q' at ho ⊢
  constructor
  · rintro ⟨hx, hy⟩
    have := ho.1 ⟨by omega, by omega⟩
    omega
  · rintro ⟨hx, hy⟩
    have := ho.2 ⟨by omega, by omega⟩
    omega

end Go.Proofs.YtdipincjginmcaaDoor
