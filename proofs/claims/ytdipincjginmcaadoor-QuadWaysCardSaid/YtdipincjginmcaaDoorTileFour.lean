/- Plain laws of the four tiles in a tile; their reading out of memory. -/
import Derived.Test.YtdipincjginmcaaDoorTileFacts
namespace Go.Proofs.YtdipincjginmcaaDoor
open Go.RowKit

theorem blk_keep2 {w1 w2 : World} {g : Nat} {o : Obj} (hb : Below w1.heap.size w1 w2) (h : w1.heap[g]? = some o) : w2.heap[g]? = some o := (hb.block g (blk_lt h)).trans h
theorem bthen2 {w w1 w2 : World} (k : Below w1.heap.size w1 w2) (h : Below w.heap.size w w1) : Below w.heap.size w w2 := bthen h k
theorem own_keep2 {w w' : World} {B E : Nat} {v : Value} {T : List (Int × Int × Int)} (hb : Below w.heap.size w w') (h : TilesAt w B E v T) : TilesAt w' B E v T := ownsRow_keep h hb
theorem own_alloc2 {w : World} {B E : Nat} {v : Value} {T : List (Int × Int × Int)} (o : Obj) (h : TilesAt w B E v T) : TilesAt (w.alloc o) B E v T := World.ownsRow.alloc h o
theorem own_draws {w : World} {B E : Nat} {v : Value} {T : List (Int × Int × Int)} (n : Nat) (h : TilesAt w B E v T) : TilesAt (w.drewN n) B E v T := h

theorem Cv.tls_some (R : Int) (n i : Nat) (hi : i < n) : (Cv.tls R n)[i]? = some (Cv.tl (R + i)) := by
  induction n with
  | zero => omega
  | succ n ih =>
    rw [Cv.tls, List.getElem?_append, Cv.tls_len]
    rcases Nat.lt_or_ge i n with h | h
    · rw [if_pos h]; exact ih h
    · have hi' : i = n := by omega
      rw [if_neg (by omega), hi', Nat.sub_self]
      rfl
theorem Cv.tls_get (R : Int) (n i : Nat) (hi : i < (Cv.tls R n).length) : (Cv.tls R n)[i]'hi = Cv.tl (R + i) := by
  have h := Cv.tls_some R n i (by rw [Cv.tls_len] at hi; exact hi)
  rw [List.getElem?_eq_getElem hi] at h
  exact Option.some.inj h
theorem tls_cell {w : World} {B g cap : Nat} {E : TypeId} {R : Int} (h : TilesAt w B E (.slice (some ⟨g, 0, none⟩) 4 cap) (Cv.tls R 4)) (i : Nat) (hi : i < 4) :
    w.cell? ⟨g, i * 3, none⟩ = some (.int .i64 (Cv.oz (R + i))) ∧ w.cell? ⟨g, i * 3 + 1, none⟩ = some (.int .i64 (Cv.ox (R + i))) ∧ w.cell? ⟨g, i * 3 + 2, none⟩ = some (.int .i64 (Cv.oy (R + i))) := by
  have hl : i < (Cv.tls R 4).length := by rw [Cv.tls_len]; exact hi
  have hc := TilesAt.cell h i hl
  rw [Cv.tls_get R 4 i hl] at hc
  exact hc

/-- the four in a tile -/
theorem Cv.four_facts {tz tx ty : Int} (h : Cv.okB tz tx ty = true) (c : tz < 26) (i : Nat) (hi : i < 4) :
    Cv.okB (Cv.oz (Cv.rf tz tx ty (tz + 1) + i)) (Cv.ox (Cv.rf tz tx ty (tz + 1) + i)) (Cv.oy (Cv.rf tz tx ty (tz + 1) + i)) = true ∧
    Cv.tid (Cv.oz (Cv.rf tz tx ty (tz + 1) + i)) (Cv.ox (Cv.rf tz tx ty (tz + 1) + i)) (Cv.oy (Cv.rf tz tx ty (tz + 1) + i)) = Cv.rf tz tx ty (tz + 1) + i ∧
    (Cv.uz (Cv.oz (Cv.rf tz tx ty (tz + 1) + i)) (Cv.ox (Cv.rf tz tx ty (tz + 1) + i)) (Cv.oy (Cv.rf tz tx ty (tz + 1) + i)) = tz ∧
     Cv.ux (Cv.oz (Cv.rf tz tx ty (tz + 1) + i)) (Cv.ox (Cv.rf tz tx ty (tz + 1) + i)) (Cv.oy (Cv.rf tz tx ty (tz + 1) + i)) = tx ∧
     Cv.uy (Cv.oz (Cv.rf tz tx ty (tz + 1) + i)) (Cv.ox (Cv.rf tz tx ty (tz + 1) + i)) (Cv.oy (Cv.rf tz tx ty (tz + 1) + i)) = ty ∧
     Cv.ue (Cv.oz (Cv.rf tz tx ty (tz + 1) + i)) (Cv.ox (Cv.rf tz tx ty (tz + 1) + i)) (Cv.oy (Cv.rf tz tx ty (tz + 1) + i)) = 0) ∧
    Cv.ovB tz tx ty (Cv.oz (Cv.rf tz tx ty (tz + 1) + i)) (Cv.ox (Cv.rf tz tx ty (tz + 1) + i)) (Cv.oy (Cv.rf tz tx ty (tz + 1) + i)) = true ∧ Cv.oz (Cv.rf tz tx ty (tz + 1) + i) = tz + 1 := by
  have hz := (Cv.ok_in h).1
  obtain ⟨⟨r0, r1, r2, r3⟩, r4, r5, r6⟩ := Cv.rng_zoom h (show tz ≤ tz + 1 by omega) (by omega)
  rw [show (tz + 1 - tz).toNat = 1 by omega] at r6
  have r7 : Cv.rt tz tx ty (tz + 1) = Cv.rf tz tx ty (tz + 1) + 3 := by simp at r6; omega
  obtain ⟨R, hR⟩ : ∃ R, R = Cv.rf tz tx ty (tz + 1) := ⟨_, rfl⟩
  have hcnt : R + 3 < 6004799503160661 := by
    rw [r7, ← hR] at r5
    unfold Cv.zv at r5
    by_cases hc : R + 3 < 6004799503160661
    · exact hc
    · rw [if_neg hc] at r5; omega
  rw [← hR]
  obtain ⟨t1, t2, _⟩ := Cv.tid_of (id := R + i) (by omega) (by omega)
  have hoz : Cv.oz (R + i) = tz + 1 := by
    have hb0 := Cv.zv_in (id := R) (by omega) (by omega)
    have e : Cv.zv (R + i) = tz + 1 := by
      obtain ⟨m, hm⟩ := Int.eq_ofNat_of_zero_le (show 0 ≤ R by omega)
      have h4 : Cv.zv R = tz + 1 := by rw [hR]; exact r4
      have h5 : Cv.zv (R + 3) = tz + 1 := by rw [hR, ← r7]; exact r5
      rw [hm] at h4 h5 ⊢
      rw [show ((m : Int) + 3) = ((m + 3 : Nat) : Int) by omega, Cv.zv_nat _ (by rw [Cv.bs27]; omega)] at h5
      rw [Cv.zv_nat _ (by rw [Cv.bs27]; omega)] at h4
      rw [show ((m : Int) + i) = ((m + i : Nat) : Int) by omega, Cv.zv_nat _ (by rw [Cv.bs27]; omega)]
      have s1 := Cv.zm_spec m
      have s2 := Cv.zm_spec (m + 3)
      have e34 : Cv.zm m = Cv.zm (m + 3) := by omega
      have := Cv.zm_of (Cv.zm m) (m + i) (by omega) (by rw [e34]; omega)
      omega
    unfold Cv.oz
    rw [if_pos (by omega), e]
  have hov : Cv.ovB tz tx ty (Cv.oz (R + i)) (Cv.ox (R + i)) (Cv.oy (R + i)) = true := by
    rw [Cv.rng_over h t1 (by rw [hoz]; omega), t2, hoz, r7, ← hR, decide_eq_true (by omega), decide_eq_true (by omega)]
    rfl
  have hov2 := hov
  unfold Cv.ovB at hov2
  rw [h, t1, hoz, show (tz + 1 - tz).toNat = 1 by omega, decide_eq_true (by omega)] at hov2
  unfold Cv.teq at hov2
  simp at hov2
  have hup : Cv.upB (Cv.oz (R + i)) (Cv.ox (R + i)) (Cv.oy (R + i)) = true := by unfold Cv.upB; rw [t1, hoz, decide_eq_true (by omega)]; rfl
  refine ⟨t1, t2, ⟨?_, ?_, ?_, ?_⟩, hov, hoz⟩
  · unfold Cv.uz; rw [if_pos hup, hoz]; omega
  · unfold Cv.ux; rw [if_pos hup]; exact hov2.1
  · unfold Cv.uy; rw [if_pos hup]; exact hov2.2
  · unfold Cv.ue; rw [t1, if_pos rfl, if_pos (by rw [hoz]; omega)]

def Cv.inB (R sz sx sy : Int) : Nat → Bool
  | 0 => false
  | k + 1 => Cv.inB R sz sx sy k || Cv.teq (Cv.oz (R + k)) (Cv.ox (R + k)) (Cv.oy (R + k)) sz sx sy
theorem Cv.in_iff (R sz sx sy : Int) (k : Nat) : Cv.inB R sz sx sy k = true ↔ ∃ i : Nat, i < k ∧ Cv.oz (R + i) = sz ∧ Cv.ox (R + i) = sx ∧ Cv.oy (R + i) = sy := by
  induction k with
  | zero => simp [Cv.inB]
  | succ k ih =>
    rw [Cv.inB, Bool.or_eq_true, ih]
    unfold Cv.teq
    simp only [Bool.and_eq_true, beq_iff_eq]
    constructor
    · rintro (⟨i, hi, h⟩ | ⟨⟨h1, h2⟩, h3⟩)
      · exact ⟨i, by omega, h⟩
      · exact ⟨k, by omega, h1, h2, h3⟩
    · rintro ⟨i, hi, h1, h2, h3⟩
      rcases Nat.lt_or_ge i k with hk | hk
      · exact Or.inl ⟨i, hk, h1, h2, h3⟩
      · have : i = k := by omega
        subst this
        exact Or.inr ⟨⟨h1, h2⟩, h3⟩
theorem Cv.four_over {tz tx ty sz sx sy : Int} (h : Cv.okB tz tx ty = true) (c : tz < 26) (hs : sz = tz + 1) : Cv.inB (Cv.rf tz tx ty (tz + 1)) sz sx sy 4 = Cv.ovB tz tx ty sz sx sy := by
  rw [Bool.eq_iff_iff, Cv.in_iff]
  constructor
  · rintro ⟨i, hi, h1, h2, h3⟩
    have := (Cv.four_facts h c i hi).2.2.2.1
    rw [h1, h2, h3] at this
    exact this
  · intro ho
    have hk : Cv.okB sz sx sy = true := by
      unfold Cv.ovB at ho
      simp only [Bool.and_eq_true] at ho
      exact ho.1.1.2
    rw [Cv.rng_over h hk (by omega)] at ho
    simp only [Bool.and_eq_true, decide_eq_true_eq] at ho
    obtain ⟨_, r4, r5, r6⟩ := Cv.rng_zoom h (show tz ≤ tz + 1 by omega) (by omega)
    rw [show (tz + 1 - tz).toNat = 1 by omega] at r6
    rw [hs] at ho
    simp at r6
    have e : Cv.rf tz tx ty (tz + 1) + ((Cv.tid sz sx sy - Cv.rf tz tx ty (tz + 1)).toNat : Int) = Cv.tid sz sx sy := by rw [hs]; omega
    obtain ⟨_, _, o1, o2, o3, _⟩ := Cv.of_tid hk
    exact ⟨(Cv.tid sz sx sy - Cv.rf tz tx ty (tz + 1)).toNat, by rw [hs]; omega, by rw [e]; exact o1, by rw [e]; exact o2, by rw [e]; exact o3⟩

end Go.Proofs.YtdipincjginmcaaDoor
