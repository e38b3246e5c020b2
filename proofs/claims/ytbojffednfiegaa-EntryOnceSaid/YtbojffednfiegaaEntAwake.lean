/- The small example of layer 7. -/
import Derived.Test.YtbojffednfiegaaEntSums
import Derived.Test.YtbojffednfiegaaEntRow
import Derived.Test.YtbojffednfiegaaEntSame
import Derived.Test.YtbojffednfiegaaEntCon
namespace Go.Proofs.Ytbojffednfiegaa
open Go.RowKit

theorem reads_blk {w : World} {g : Nat} {cs : Array Value} {t : TypeId} {L : List Ent} (h : w.heap[g]? = some (.cells cs t (0, 0))) (hc : cs.toList = ecells L) : Reads w w.heap.size 4 (some ⟨g, 0, none⟩) L.length (ecells L) := by
  refine ⟨ecells_len L, fun _ => ⟨_, rfl, blk_lt h, fun j u hu => ?_⟩⟩
  have e : (⟨g, 0, none⟩ : Addr).add j = ⟨g, j, none⟩ := by unfold Addr.add; split <;> simp_all
  rw [e, cell_of_row w g j cs t (0, 0) h, ← hu, ← hc]
  simp
theorem blk_cells8 {w : World} {g : Nat} {a b c d a' b' c' d' : Value} {t : TypeId} (h : w.heap[g]? = some (.cells #[a, b, c, d, a', b', c', d'] t (0, 0))) :
    (w.cell? ⟨g, 0, none⟩ = some a ∧ w.cell? ⟨g, 1, none⟩ = some b ∧ w.cell? ⟨g, 2, none⟩ = some c ∧ w.cell? ⟨g, 3, none⟩ = some d) ∧ w.cell? ⟨g, 4, none⟩ = some a' ∧ w.cell? ⟨g, 5, none⟩ = some b' ∧ w.cell? ⟨g, 6, none⟩ = some c' ∧ w.cell? ⟨g, 7, none⟩ = some d' := by
  refine ⟨⟨?_, ?_, ?_, ?_⟩, ?_, ?_, ?_, ?_⟩ <;> exact cell_of_row w g _ _ _ _ h
def En.exL : List Ent := [(5, 0, 2, 3), (8, 2, 1, 0)]
def En.exM : List Ent := [(5, 0, 2, 3), (7, 0, 1, 0)]
theorem exL_fits : En.fits En.exL := by intro e he; simp [En.exL] at he; rcases he with rfl | rfl <;> simp [En.good, En.fit]
theorem exM_fits : En.fits En.exM := by intro e he; simp [En.exM] at he; rcases he with rfl | rfl <;> simp [En.good, En.fit]

set_option maxHeartbeats 2000000 in
theorem awake07 (w : World) :
    Calls Try.prog 22 #[] w fun e w' => e = .returned (.bool true) ∧ Below w.heap.size w w' := by
  have e1 : En.row En.exL = 0 := by decide +kernel
  have e2 : En.row En.exM = 10 := by decide +kernel
  have e3 : En.ck 0 0 0 1 = 2 := by decide +kernel
  have e4 : En.la 5 0 2 3 = 7 := by decide +kernel
  have e5 : En.la 8 2 1 0 = 8 := by decide +kernel
  have e6 : En.hs 5 0 2 3 7 = true := by decide +kernel
  have e7 : En.hs 8 2 1 0 8 = false := by decide +kernel
  have e8 : En.cnt En.exL = 3 := by decide +kernel
  have e9 : En.con En.exL = 1 := by decide +kernel
  have e10 : En.fin En.exL = 3 := by decide +kernel
  have e11 : En.sm En.exL En.exL = true := by decide +kernel
  have e12 : En.sm En.exL En.exM = false := by decide +kernel
  go_enter Try.func22, Try.ntmps22
  go_wp2_with fail
  have HA := Lib.hid (blk_alloc (heap_alloc_new w (.cells #[.int .u64 5, .int .u64 0, .int .u32 2, .int .u32 3, .int .u64 8, .int .u64 2, .int .u32 1, .int .u32 0] 26)) (.cells #[.int .u64 5, .int .u64 0, .int .u32 2, .int .u32 3, .int .u64 7, .int .u64 0, .int .u32 1, .int .u32 0] 26))
  have HB := Lib.hid (heap_alloc_new (w.alloc (.cells #[.int .u64 5, .int .u64 0, .int .u32 2, .int .u32 3, .int .u64 8, .int .u64 2, .int .u32 1, .int .u32 0] 26)) (.cells #[.int .u64 5, .int .u64 0, .int .u32 2, .int .u32 3, .int .u64 7, .int .u64 0, .int .u32 1, .int .u32 0] 26))
  have hw : Below w.heap.size w ((w.alloc (.cells #[.int .u64 5, .int .u64 0, .int .u32 2, .int .u32 3, .int .u64 8, .int .u64 2, .int .u32 1, .int .u32 0] 26)).alloc (.cells #[.int .u64 5, .int .u64 0, .int .u32 2, .int .u32 3, .int .u64 7, .int .u64 0, .int .u32 1, .int .u32 0] 26)) := bthen (blk_new _ _) (blk_new _ _)
  rw [World.size_alloc] at HB
  refine (row_any _ 2 2 En.exL _ _ (reads_blk HA.out rfl) rfl exL_fits (Nat.le_refl _) (by omega)).mono ?_; rintro e w1 ⟨rfl, hb⟩
  have hw := bthen2 hb hw
  have HA := Lib.hid (blk_keep2 hb HA.out)
  have HB := Lib.hid (blk_keep2 hb HB.out)
  clear hb
  go_wp2_with fail
  refine (row_any _ 2 2 En.exM _ _ (reads_blk HB.out rfl) rfl exM_fits (Nat.le_refl _) (by omega)).mono ?_; rintro e w1 ⟨rfl, hb⟩
  have hw := bthen2 hb hw
  have HA := Lib.hid (blk_keep2 hb HA.out)
  have HB := Lib.hid (blk_keep2 hb HB.out)
  clear hb
  go_wp2_with fail
  refine (check_any _ _ _ _ (by unfold En.fit; omega) _).mono ?_; rintro e w1 ⟨rfl, hb⟩
  have hw := bthen2 hb hw
  have HA := Lib.hid (blk_keep2 hb HA.out)
  have HB := Lib.hid (blk_keep2 hb HB.out)
  clear hb
  obtain ⟨⟨c0, c1, c2, c3⟩, d0, d1, d2, d3⟩ := blk_cells8 HA.out
  go_wp2_with fail
  clear c0 c1 c2 c3 d0 d1 d2 d3
  refine (last_any _ _ _ _ (by unfold En.fit; omega) _).mono ?_; rintro e w1 ⟨rfl, hb⟩
  have hw := bthen2 hb hw
  have HA := Lib.hid (blk_keep2 hb HA.out)
  have HB := Lib.hid (blk_keep2 hb HB.out)
  clear hb
  obtain ⟨⟨c0, c1, c2, c3⟩, d0, d1, d2, d3⟩ := blk_cells8 HA.out
  go_wp2_with fail
  clear c0 c1 c2 c3 d0 d1 d2 d3
  refine (last_any _ _ _ _ (by unfold En.fit; omega) _).mono ?_; rintro e w1 ⟨rfl, hb⟩
  have hw := bthen2 hb hw
  have HA := Lib.hid (blk_keep2 hb HA.out)
  have HB := Lib.hid (blk_keep2 hb HB.out)
  clear hb
  obtain ⟨⟨c0, c1, c2, c3⟩, d0, d1, d2, d3⟩ := blk_cells8 HA.out
  go_wp2_with fail
  clear c0 c1 c2 c3 d0 d1 d2 d3
  refine (has_any _ _ _ _ _ (by unfold En.fit; omega) _).mono ?_; rintro e w1 ⟨rfl, hb⟩
  have hw := bthen2 hb hw
  have HA := Lib.hid (blk_keep2 hb HA.out)
  have HB := Lib.hid (blk_keep2 hb HB.out)
  clear hb
  obtain ⟨⟨c0, c1, c2, c3⟩, d0, d1, d2, d3⟩ := blk_cells8 HA.out
  go_wp2_with fail
  clear c0 c1 c2 c3 d0 d1 d2 d3
  refine (has_any _ _ _ _ _ (by unfold En.fit; omega) _).mono ?_; rintro e w1 ⟨rfl, hb⟩
  have hw := bthen2 hb hw
  have HA := Lib.hid (blk_keep2 hb HA.out)
  have HB := Lib.hid (blk_keep2 hb HB.out)
  clear hb
  go_wp2_with fail
  refine (count_any _ 2 2 En.exL _ _ (reads_blk HA.out rfl) rfl exL_fits (Nat.le_refl _) (by omega)).mono ?_; rintro e w1 ⟨rfl, hb⟩
  have hw := bthen2 hb hw
  have HA := Lib.hid (blk_keep2 hb HA.out)
  have HB := Lib.hid (blk_keep2 hb HB.out)
  clear hb
  go_wp2_with fail
  refine (con_any _ 2 2 En.exL _ _ (reads_blk HA.out rfl) rfl exL_fits (Nat.le_refl _) (by omega)).mono ?_; rintro e w1 ⟨rfl, hb⟩
  have hw := bthen2 hb hw
  have HA := Lib.hid (blk_keep2 hb HA.out)
  have HB := Lib.hid (blk_keep2 hb HB.out)
  clear hb
  go_wp2_with fail
  refine (fin_any _ 2 2 En.exL _ _ (reads_blk HA.out rfl) rfl exL_fits (Nat.le_refl _) (by omega)).mono ?_; rintro e w1 ⟨rfl, hb⟩
  have hw := bthen2 hb hw
  have HA := Lib.hid (blk_keep2 hb HA.out)
  have HB := Lib.hid (blk_keep2 hb HB.out)
  clear hb
  go_wp2_with fail
  refine (same_any _ 2 2 En.exL _ _ 2 2 En.exL _ _ (reads_blk HA.out rfl) rfl (Nat.le_refl _) (reads_blk HA.out rfl) rfl (Nat.le_refl _) (by omega) (by omega)).mono ?_; rintro e w1 ⟨rfl, hb⟩
  have hw := bthen2 hb hw
  have HA := Lib.hid (blk_keep2 hb HA.out)
  have HB := Lib.hid (blk_keep2 hb HB.out)
  clear hb
  go_wp2_with fail
  refine (same_any _ 2 2 En.exL _ _ 2 2 En.exM _ _ (reads_blk HA.out rfl) rfl (Nat.le_refl _) (reads_blk HB.out rfl) rfl (Nat.le_refl _) (by omega) (by omega)).mono ?_; rintro e w1 ⟨rfl, hb⟩
  have hw := bthen2 hb hw
  have HA := Lib.hid (blk_keep2 hb HA.out)
  have HB := Lib.hid (blk_keep2 hb HB.out)
  clear hb
  go_wp2_with fail
  go_ret
  exact ⟨rfl, hw⟩

end Go.Proofs.Ytbojffednfiegaa
