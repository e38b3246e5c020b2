/- The walk of the document's Over. -/
import Derived.Test.YtdipincjginmcaaDoorTileOver
import Derived.Deep.LoopGhost
import Derived.Lib.SmallJoins
namespace Go.Proofs.YtdipincjginmcaaDoor
open Go.RowKit

theorem blk_set3 {wr : World} {g : Nat} {a b c a' b' c' : Value} {t : TypeId} (h : wr.heap[g]? = some (.cells #[a, b, c] t (0, 0))) :
    (((wr.setCell ⟨g, 0, none⟩ a').setCell ⟨g, 1, none⟩ b').setCell ⟨g, 2, none⟩ c').heap[g]? = some (.cells #[a', b', c'] t (0, 0)) := by
  have h1 := Joins.block_setCell (i := 0) h a'
  have h2 := Joins.block_setCell (i := 1) h1 b'
  exact Joins.block_setCell (i := 2) h2 c'
theorem blk_far3 {wr : World} {g g' : Nat} {o : Obj} {a' b' c' : Value} (h : wr.heap[g]? = some o) (hne : g ≠ g') :
    (((wr.setCell ⟨g', 0, none⟩ a').setCell ⟨g', 1, none⟩ b').setCell ⟨g', 2, none⟩ c').heap[g]? = some o :=
  (Below.heap_setCell _ _ _ _ hne).trans ((Below.heap_setCell _ _ _ _ hne).trans ((Below.heap_setCell _ _ _ _ hne).trans h))
theorem half_pow (x : Int) (k : Nat) (h0 : 0 ≤ x) : x / 2 ^ k / 2 = x / 2 ^ (k + 1) := by
  obtain ⟨n, rfl⟩ := Int.eq_ofNat_of_zero_le h0
  have e : ∀ k, (n : Int) / 2 ^ k = ((n / 2 ^ k : Nat) : Int) := fun k => by simp
  rw [e, e, Nat.pow_succ, ← Nat.div_div_eq_div_mul]
  omega
theorem div_bd (x : Int) (k : Nat) (h0 : 0 ≤ x) (h1 : x ≤ 67108864) : 0 ≤ x / 2 ^ k ∧ x / 2 ^ k ≤ 67108864 := by
  obtain ⟨n, rfl⟩ := Int.eq_ofNat_of_zero_le h0
  have e : (n : Int) / 2 ^ k = ((n / 2 ^ k : Nat) : Int) := by simp
  have h := Nat.div_le_self n (2 ^ k)
  rw [e]
  generalize n / 2 ^ k = m at *
  omega

theorem refover_not (tz tx ty sz sx sy : Int) (w : World) (h : Cv.okB tz tx ty = false ∨ Cv.okB sz sx sy = false) :
    Calls Tryd.prog 29 #[.agg #[.int .i64 tz, .int .i64 tx, .int .i64 ty], .agg #[.int .i64 sz, .int .i64 sx, .int .i64 sy]] w fun e w' => e = .returned (.bool (Cv.ovB tz tx ty sz sx sy)) ∧ Below w.heap.size w w' := by
  have hov : Cv.ovB tz tx ty sz sx sy = false := by
    unfold Cv.ovB
    rcases h with h | h
    · rw [h]; rfl
    · rw [h]; cases Cv.okB tz tx ty <;> rfl
  rw [hov]
  clear hov
  rcases Bool.eq_false_or_eq_true (Cv.okB tz tx ty) with h1 | h1
  · have hpe := Cv.pe_ok h1
    have kpe : (Cv.pe sz sx sy != 0) = true := by
      rcases h with h | h
      · rw [h1] at h; cases h
      · rcases Cv.pe_not h with q | q <;> rw [q] <;> rfl
    clear h h1
    go_enter Tryd.func29, Tryd.ntmps29
    go_wp2_with fail
    refine (refid_any _ _ _ _).mono ?_; rintro e w1 ⟨rfl, hb1⟩
    obtain ⟨hA, hB, hsA, hsB, hw1⟩ := blk_two hb1
    obtain ⟨⟨b0, b1, b2⟩, _⟩ := blk_cells3 hB
    have HA := Lib.hid hA
    have HB := Lib.hid hB
    clear hA hB
    go_wp2_with fail
    refine (refid_any _ _ _ _).mono ?_; rintro e w2 ⟨rfl, hb2⟩
    have hw2 := bthen hw1 hb2
    clear b0 b1 b2
    have hA2 := blk_keep HA.out hb2
    have hB2 := blk_keep HB.out hb2
    clear HA HB hw1 hsA hsB hb1 hb2
    go_wp2_with fail
    go_ret
    exact ⟨rfl, hw2⟩
  · have hpe : (Cv.pe tz tx ty != 0) = true := by rcases Cv.pe_not h1 with q | q <;> rw [q] <;> rfl
    clear h h1
    go_enter Tryd.func29, Tryd.ntmps29
    go_wp2_with fail
    refine (refid_any _ _ _ _).mono ?_; rintro e w1 ⟨rfl, hb1⟩
    obtain ⟨hA, hB, hsA, hsB, hw1⟩ := blk_two hb1
    obtain ⟨⟨b0, b1, b2⟩, _⟩ := blk_cells3 hB
    have HA := Lib.hid hA
    have HB := Lib.hid hB
    clear hA hB
    go_wp2_with fail
    refine (refid_any _ _ _ _).mono ?_; rintro e w2 ⟨rfl, hb2⟩
    have hw2 := bthen hw1 hb2
    clear b0 b1 b2
    have hA2 := blk_keep HA.out hb2
    have hB2 := blk_keep HB.out hb2
    clear HA HB hw1 hsA hsB hb1 hb2
    go_wp2_with fail
    go_ret
    exact ⟨rfl, hw2⟩

set_option maxHeartbeats 1000000 in
theorem refover_in (tz tx ty sz sx sy : Int) (w : World) (h : Cv.okB tz tx ty = true) (k : Cv.okB sz sx sy = true) :
    Calls Tryd.prog 29 #[.agg #[.int .i64 tz, .int .i64 tx, .int .i64 ty], .agg #[.int .i64 sz, .int .i64 sx, .int .i64 sy]] w fun e w' => e = .returned (.bool (Cv.ovB tz tx ty sz sx sy)) ∧ Below w.heap.size w w' := by
    have hpe := Cv.pe_ok h
    have kpe := Cv.pe_ok k
    obtain ⟨⟨hz0, hz1⟩, _⟩ := Cv.ok_in h
    obtain ⟨⟨kz0, kz1⟩, kx0, kxl, ky0, kyl⟩ := Cv.ok_in k
    have t26 := two26 sz.toNat (by omega)
    have kx1 : sx ≤ 67108864 := by omega
    have ky1 : sy ≤ 67108864 := by omega
    have hov : Cv.ovB tz tx ty sz sx sy = (decide (tz ≤ sz) && Cv.teq tz (sx / 2 ^ (sz - tz).toNat) (sy / 2 ^ (sz - tz).toNat) tz tx ty) := by unfold Cv.ovB; rw [h, k]; rfl
    have HO := Lib.hid hov
    have hq := eq_rtile
    clear h k hov kxl kyl t26
    go_enter Tryd.func29, Tryd.ntmps29
    go_wp2_with fail
    refine (refid_any _ _ _ _).mono ?_; rintro e w1 ⟨rfl, hb1⟩
    obtain ⟨hA, hB, hsA, hsB, hw1⟩ := blk_two hb1
    obtain ⟨⟨b0, b1, b2⟩, _⟩ := blk_cells3 hB
    have HA := Lib.hid hA
    have HB := Lib.hid hB
    clear hA hB
    go_wp2_with fail
    refine (refid_any _ _ _ _).mono ?_; rintro e w2 ⟨rfl, hb2⟩
    have hw2 := bthen hw1 hb2
    clear b0 b1 b2
    have hA2 := blk_keep HA.out hb2
    have hB2 := blk_keep HB.out hb2
    clear HA HB hw1 hsA hsB hb1 hb2
    go_wp2_with fail
    go_loopg [26] (sz - tz).toNat (fun g _ wr => ∃ (n : Nat) (X Y : Int), g = (sz - tz).toNat - n ∧ n ≤ (sz - tz).toNat ∧ Aside (X = sx / 2 ^ n ∧ Y = sy / 2 ^ n) ∧ Aside (wr.heap[w.heap.size]? = some (.cells #[.int .i64 tz, .int .i64 tx, .int .i64 ty] 23 (0, 0)) ∧ wr.heap[w.heap.size + 1]? = some (.cells #[.int .i64 (sz - n), .int .i64 X, .int .i64 Y] 23 (0, 0))) ∧ Below w.heap.size w wr)
    case atStart => exact ⟨0, sx, sy, by omega, by omega, ⟨by simp, by simp⟩, ⟨hA2, by simpa using hB2⟩, hw2⟩
    case round =>
      obtain ⟨n, X, Y, hg, hn, hXY, hAB, hbl⟩ := hrel
      clear hA2 hB2 hw2
      have hbX : 0 ≤ X ∧ X ≤ 67108864 := by rw [hXY.out.1]; exact div_bd _ _ kx0 kx1
      have hbY : 0 ≤ Y ∧ Y ≤ 67108864 := by rw [hXY.out.2]; exact div_bd _ _ ky0 ky1
      obtain ⟨⟨a0, a1, a2⟩, _⟩ := blk_cells3 hAB.out.1
      obtain ⟨⟨b0, b1, b2⟩, f0, f1, f2⟩ := blk_cells3 hAB.out.2
      obtain ⟨X0, X1⟩ := hbX
      obtain ⟨Y0, Y1⟩ := hbY
      have HG := Lib.hid hg
      clear hg
      by_cases c : tz < sz - n
      · go_wp2_with fail
        have hn1 : n + 1 ≤ (sz - tz).toNat := by omega
        have hw3 : Below w.heap.size w (((wr.setCell ⟨w.heap.size + 1, 0, none⟩ (.int .i64 (sz - n - 1))).setCell ⟨w.heap.size + 1, 1, none⟩ (.int .i64 (X / 2))).setCell ⟨w.heap.size + 1, 2, none⟩ (.int .i64 (Y / 2))) := ((hbl.setCell (by simp) _).setCell (by simp) _).setCell (by simp) _
        have hAB3 := blk_far3 (a' := .int .i64 (sz - n - 1)) (b' := .int .i64 (X / 2)) (c' := .int .i64 (Y / 2)) hAB.out.1 (show w.heap.size ≠ w.heap.size + 1 by omega)
        have hBB3 := blk_set3 (a' := .int .i64 (sz - n - 1)) (b' := .int .i64 (X / 2)) (c' := .int .i64 (Y / 2)) hAB.out.2
        have ez : sz - (n : Int) - 1 = sz - ((n + 1 : Nat) : Int) := by omega
        rw [ez] at hw3 hAB3 hBB3
        first | rw [ez] | skip
        go_roundg ((sz - tz).toNat - (n + 1))
        case measure => have := HG.out; omega
        case rel => exact ⟨n + 1, X / 2, Y / 2, rfl, hn1, ⟨by rw [hXY.out.1]; exact half_pow sx n kx0, by rw [hXY.out.2]; exact half_pow sy n ky0⟩, ⟨hAB3, hBB3⟩, hw3⟩
      · have hfin : Cv.teq (sz - n) X Y tz tx ty = Cv.ovB tz tx ty sz sx sy := by
          rw [HO.out]
          by_cases c2 : tz ≤ sz
          · have en : (sz - tz).toNat = n := by omega
            rw [decide_eq_true c2, en, ← hXY.out.1, ← hXY.out.2, show sz - (n : Int) = tz by omega]
            rfl
          · rw [decide_eq_false c2]
            unfold Cv.teq
            rw [show (sz - (n : Int) == tz) = false from beq_eq_false_iff_ne.2 (by omega)]
            rfl
        have HF := Lib.hid hfin
        clear hfin
        go_wp2_with fail
        go_ret
        exact ⟨retb HF.out, hbl⟩

theorem refover_any (tz tx ty sz sx sy : Int) (w : World) :
    Calls Tryd.prog 29 #[.agg #[.int .i64 tz, .int .i64 tx, .int .i64 ty], .agg #[.int .i64 sz, .int .i64 sx, .int .i64 sy]] w fun e w' => e = .returned (.bool (Cv.ovB tz tx ty sz sx sy)) ∧ Below w.heap.size w w' := by
  rcases Bool.eq_false_or_eq_true (Cv.okB tz tx ty) with h | h
  · rcases Bool.eq_false_or_eq_true (Cv.okB sz sx sy) with k | k
    · exact refover_in _ _ _ _ _ _ w h k
    · exact refover_not _ _ _ _ _ _ w (Or.inr k)
  · exact refover_not _ _ _ _ _ _ w (Or.inl h)

end Go.Proofs.YtdipincjginmcaaDoor
