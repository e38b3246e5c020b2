/- The small example of layer 4. -/
import Derived.Test.YtdipincjginmcaaTileDown
import Derived.Test.YtdipincjginmcaaRefOver
namespace Go.Proofs.Ytdipincjginmcaa
open Go.RowKit

set_option maxHeartbeats 2000000 in
theorem awake04 (w : World) :
    Calls Try.prog 31 #[] w fun e w' => e = .returned (.bool true) ∧ Below w.heap.size w w' := by
  have a1 : Cv.tid 1 1 0 = 4 := by decide +kernel
  have a2 : Cv.pe 1 1 0 = 0 := by decide +kernel
  have a3 : Cv.oz 5 = 2 := by decide +kernel
  have a4 : Cv.ox 5 = 0 := by decide +kernel
  have a5 : Cv.oy 5 = 0 := by decide +kernel
  have a6 : Cv.oe 5 = 0 := by decide +kernel
  have a7 : Cv.oe 6004799503160661 = 8 := by decide +kernel
  have a8 : Cv.dl 0 0 0 = [(1, 0, 0), (1, 0, 1), (1, 1, 1), (1, 1, 0)] := by decide +kernel
  have a9 : Cv.de 0 0 0 = 0 := by decide +kernel
  have a10 : Cv.rf 1 0 0 2 = 5 := by decide +kernel
  have a11 : Cv.rt 1 0 0 2 = 8 := by decide +kernel
  have a12 : Cv.re 1 0 0 2 = 0 := by decide +kernel
  have a13 : (Cv.bv 27 == 6004799503160661) = true := by decide +kernel
  have a14 : Cv.be 27 = 0 := by decide +kernel
  have a15 : Cv.zv 4 = 1 := by decide +kernel
  have a16 : Cv.zv 6004799503160661 = -1 := by decide +kernel
  have a17 : Cv.ovB 0 0 0 3 7 1 = true := by decide +kernel
  have a18 : Cv.teq 2 0 0 2 0 0 = true := rfl
  have a19 : Cv.teq 1 1 0 1 1 0 = true := rfl
  have hq := eq_tile
  have hdn := fun w => down_any 0 0 0 w
  rw [a8, a9] at hdn
  have HD := Lib.hid hdn
  clear hdn a8 a9
  go_enter Try.func31, Try.ntmps31
  go_wp2_with fail
  refine (id_any _ _ _ _).mono ?_; rintro e w1 ⟨rfl, hb1⟩
  go_wp2_with fail
  refine (of_any _ (by omega) (by omega) _).mono ?_; rintro e w2 ⟨rfl, hb2⟩
  have hw2 := bthen hb1 hb2
  go_wp2_with fail
  refine (of_any _ (by omega) (by omega) _).mono ?_; rintro e w3 ⟨rfl, hb3⟩
  obtain ⟨hA, hs3, hw3'⟩ := blk_one hb3
  have hw3 := bthen hw2 hw3'
  clear hb3 hw3' hw2 hb1 hb2
  have HA := Lib.hid hA
  clear hA
  go_wp2_with fail
  refine (HD.out _).mono ?_
  intro e w4 h4
  obtain ⟨v, he, hT, hb4⟩ := h4
  obtain ⟨g, cap, hv, hg, hgl⟩ := World.ownsRow.form hT (by decide)
  rw [hv] at he hT
  subst he
  obtain ⟨_, hs4, hw4'⟩ := blk_one hb4
  have hw4 := bthen hw3 hw4'
  have hA4 := blk_keep (blk_alloc HA.out _) hb4
  have HA4 := Lib.hid hA4
  have HT := Lib.hid hT
  clear hv hT hA4 HA hb4 hw4' hw3 hg hgl hs3 hs4
  go_wp2_with fail
  refine (range_any _ _ _ _ _).mono ?_; rintro e w5 ⟨rfl, hb5⟩
  obtain ⟨⟨c0, c1, c2⟩, _⟩ := blk_cells3 (blk_keep HA4.out hb5)
  have hT5 := ownsRow_keep HT.out hb5
  have hcell := TilesAt.cell hT5 3 (by decide)
  simp at hcell
  obtain ⟨d0, d1, d2⟩ := hcell
  have hw5 := bthen hw4 hb5
  clear hT5 HT HA4 hb5 hw4
  go_wp2_with fail
  refine (Base_any _ _).mono ?_; rintro e w' ⟨rfl, rfl⟩
  go_wp2_with fail
  refine (zoom_any _ (by omega) _).mono ?_; rintro e w' ⟨rfl, rfl⟩
  go_wp2_with fail
  refine (zoom_any _ (by omega) _).mono ?_; rintro e w' ⟨rfl, rfl⟩
  go_wp2_with fail
  refine (over_any _ _ _ _ _ _ _).mono ?_; rintro e w6 ⟨rfl, hb6⟩
  go_wp2_with fail
  go_ret
  exact ⟨rfl, bthen hw5 hb6⟩

end Go.Proofs.Ytdipincjginmcaa
