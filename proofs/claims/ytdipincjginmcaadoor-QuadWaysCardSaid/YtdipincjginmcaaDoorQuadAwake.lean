/- The small example of layer 42. -/
import Derived.Test.YtdipincjginmcaaDoorQuadUnder
import Derived.Test.YtdipincjginmcaaDoorQuadWay
import Derived.Test.YtdipincjginmcaaDoorTileEq
namespace Go.Proofs.YtdipincjginmcaaDoor
open Go.RowKit

theorem TilesAt.formed {w : World} {B : Nat} {E : TypeId} {v : Value} {L : List (Int × Int × Int)} (h : TilesAt w B E v L) (h0 : 0 < L.length) :
    ∃ g cap, v = .slice (some ⟨g, 0, none⟩) L.length cap ∧ g < w.heap.size ∧ ∀ j, j < L.length * 3 → w.cell? ⟨g, j, none⟩ = (tcells L)[j]? := by
  rcases h.forms with ⟨_, rfl⟩ | ⟨g, cap, rfl, hg, _⟩
  · simp at h0
  · exact ⟨g, cap, rfl, hg, fun j hj => World.ownsRow.cellAt h j hj⟩
theorem StrsAt.formed {w : World} {B : Nat} {v : Value} {L : List ByteArray} (h : StrsAt w B v L) (h0 : 0 < L.length) :
    ∃ g cap, v = .slice (some ⟨g, 0, none⟩) L.length cap ∧ g < w.heap.size ∧ ∀ j, j < L.length * 1 → w.cell? ⟨g, j, none⟩ = (Qu.row L)[j]? := by
  obtain ⟨g, cap, rfl, _, hg⟩ := World.ownsRow.form h h0
  exact ⟨g, cap, rfl, hg, fun j hj => World.ownsRow.cellAt h j hj⟩
theorem key_352 {e : Ending} (h : KeyR 3 5 2 e) : e = .returned (.tuple #[.string ⟨#[49, 50, 49]⟩, .int .i64 0]) := by
  unfold KeyR at h
  rw [show Qs.key 3 5 2 = ⟨#[49, 50, 49]⟩ by decide +kernel, show Cv.pe 3 5 2 = 0 by decide +kernel] at h
  exact h
theorem key_120 {e : Ending} (h : KeyR 1 2 0 e) : e = .returned (.tuple #[.string ⟨#[]⟩, .int .i64 8]) := by
  unfold KeyR at h
  rw [show Qs.key 1 2 0 = ⟨#[]⟩ by decide +kernel, show Cv.pe 1 2 0 = 8 by decide +kernel] at h
  exact h
theorem parse_121 {e : Ending} (h : ParseR ⟨#[49, 50, 49]⟩ e) : e = .returned (.tuple #[.agg #[.int .i64 3, .int .i64 5, .int .i64 2], .int .i64 0]) := by
  unfold ParseR at h
  rw [show Qs.pz ⟨#[49, 50, 49]⟩ = 3 by decide +kernel, show Qs.px ⟨#[49, 50, 49]⟩ = 5 by decide +kernel, show Qs.py ⟨#[49, 50, 49]⟩ = 2 by decide +kernel, show Qs.pc ⟨#[49, 50, 49]⟩ = 0 by decide +kernel] at h
  exact h
theorem parse_4 {e : Ending} (h : ParseR ⟨#[52]⟩ e) : e = .returned (.tuple #[.agg #[.int .i64 0, .int .i64 0, .int .i64 0], .int .i64 4]) := by
  unfold ParseR at h
  rw [show Qs.pz ⟨#[52]⟩ = 0 by decide +kernel, show Qs.px ⟨#[52]⟩ = 0 by decide +kernel, show Qs.py ⟨#[52]⟩ = 0 by decide +kernel, show Qs.pc ⟨#[52]⟩ = 4 by decide +kernel] at h
  exact h
theorem com_two {e : Ending} (h : ComR [(2, 0, 0), (2, 1, 1)] e) : e = .returned (.tuple #[.agg #[.int .i64 1, .int .i64 0, .int .i64 0], .bool true]) := by
  unfold ComR at h
  rw [show Qc.ct [(2, 0, 0), (2, 1, 1)] = (1, 0, 0) by decide +kernel, show Qc.cb [(2, 0, 0), (2, 1, 1)] = true by decide +kernel] at h
  exact h
theorem com_none {e : Ending} (h : ComR [] e) : e = .returned (.tuple #[.agg #[.int .i64 0, .int .i64 0, .int .i64 0], .bool false]) := by
  unfold ComR at h
  rw [show Qc.ct [] = (0, 0, 0) by decide +kernel, show Qc.cb [] = false by decide +kernel] at h
  exact h
theorem way_110 : Qw.way 1 1 0 = [(0, 0, 0), (1, 1, 0)] := by decide +kernel
theorem und_three : Qu.und [⟨#[49, 50]⟩, ⟨#[50]⟩, ⟨#[49, 50, 49]⟩] ⟨#[49, 50]⟩ = [⟨#[49, 50]⟩, ⟨#[49, 50, 49]⟩] := by decide +kernel
/-- what lies in the newest block, after another call -/
theorem blk_then {w w1 : World} {A : Obj} (hb : Below (w.alloc A).heap.size (w.alloc A) w1) : Hid (w1.heap[w.heap.size]? = some A) ∧ Below w.heap.size w w1 := ⟨Lib.hid (blk_one hb).1, (blk_one hb).2.2⟩
theorem blk_past {w w1 : World} {A : Obj} {g : Nat} {o : Obj} (h : Hid (w.heap[g]? = some o)) (hb : Below (w.alloc A).heap.size (w.alloc A) w1) : Hid (w1.heap[g]? = some o) := Lib.hid (blk_keep2 hb (blk_alloc h.out A))
theorem blk_on {w w1 : World} {g : Nat} {o : Obj} (h : Hid (w.heap[g]? = some o)) (hb : Below w.heap.size w w1) : Hid (w1.heap[g]? = some o) := Lib.hid (blk_keep2 hb h.out)

set_option maxRecDepth 100000 in
set_option maxHeartbeats 4000000 in
theorem awake42 (w : World) :
    Calls Tryd.prog 8 #[] w fun e w' => e = .returned (.bool true) ∧ Below w.heap.size w w' := by
  go_enter Tryd.func8, Tryd.ntmps8
  go_wp2_with fail
  refine (key_any _ _ _ _).mono ?_; rintro e w1 ⟨he, hw⟩
  obtain rfl := key_352 he
  clear he
  go_wp2_with fail
  refine (parse_any _ (by decide) _).mono ?_; rintro e w2 ⟨he, hb⟩
  obtain rfl := parse_121 he
  replace hw := bthen2 hb hw
  clear he hb
  go_wp2_with fail
  refine (parse_any _ (by decide) _).mono ?_; rintro e w3 ⟨he, hb⟩
  obtain rfl := parse_4 he
  obtain ⟨H3, hb3⟩ := blk_then hb
  replace hw := bthen2 hb3 hw
  clear he hb hb3
  go_wp2_with fail
  refine (key_any _ _ _ _).mono ?_; rintro e w4 ⟨he, hb⟩
  obtain rfl := key_120 he
  replace H3 := blk_past H3 hb
  replace hw := bthen2 (blk_then hb).2 hw
  clear he hb
  go_wp2_with fail
  refine (common_any _ 2 2 [(2, 0, 0), (2, 1, 1)] _ _ (Reads.of_own (base := w4.heap.size) (e := 30) (c := 2) (World.ownsRow_lit _ _ 2 (Nat.le_refl _) (by decide) rfl)) rfl (Nat.le_refl _) (by decide)).mono ?_; rintro e w5 ⟨he, hb⟩
  obtain rfl := com_two he
  replace H3 := blk_past H3 hb
  replace hw := bthen2 (blk_then hb).2 hw
  clear he hb
  go_wp2_with fail
  refine (common_any _ 0 0 [] 0 _ Reads.none_ rfl (Nat.zero_le _) (by decide)).mono ?_; rintro e w6 ⟨he, hb⟩
  obtain rfl := com_none he
  replace H3 := blk_past H3 hb
  obtain ⟨H9, hb9⟩ := blk_then hb
  replace hw := bthen2 hb9 hw
  clear he hb hb9
  go_wp2_with fail
  refine (way_any _ _ _ _).mono ?_; rintro e w7 ⟨v, rfl, hT, hb⟩
  rw [way_110] at hT
  obtain ⟨g1, c1, rfl, hg1, hT1⟩ := hT.formed (by decide)
  have HT := Lib.hid hT1
  replace H3 := blk_past H3 hb
  replace H9 := blk_past H9 hb
  replace hw := bthen2 (blk_then hb).2 hw
  clear hT hT1 hb
  go_wp2_with fail
  refine (under_any _ 3 3 [⟨#[49, 50]⟩, ⟨#[50]⟩, ⟨#[49, 50, 49]⟩] _ _ _ (Reads.of_own (base := w7.heap.size) (e := 9) (c := 3) (World.ownsRow_lit _ _ 3 (Nat.le_refl _) (by decide) rfl)) rfl (Nat.le_refl _) (by decide)).mono ?_; rintro e w8 ⟨v, rfl, hS, hb⟩
  rw [und_three] at hS
  obtain ⟨g2, c2, rfl, hg2, hS1⟩ := hS.formed (by decide)
  replace H3 := blk_past H3 hb
  replace H9 := blk_past H9 hb
  have hb8 := (blk_then hb).2
  replace hw := bthen2 hb8 hw
  have s1 := hS1 1 (by decide)
  have t3 := (hb8.cell (show (⟨g1, 3, none⟩ : Addr).block < w7.heap.size from hg1)).trans (HT.out 3 (by decide))
  have t4 := (hb8.cell (show (⟨g1, 4, none⟩ : Addr).block < w7.heap.size from hg1)).trans (HT.out 4 (by decide))
  have t5 := (hb8.cell (show (⟨g1, 5, none⟩ : Addr).block < w7.heap.size from hg1)).trans (HT.out 5 (by decide))
  rw [show (Qu.row [⟨#[49, 50]⟩, ⟨#[49, 50, 49]⟩])[1]? = some (.string ⟨#[49, 50, 49]⟩) from rfl] at s1
  rw [show (tcells [(0, 0, 0), (1, 1, 0)])[3]? = some (.int .i64 1) from rfl] at t3
  rw [show (tcells [(0, 0, 0), (1, 1, 0)])[4]? = some (.int .i64 1) from rfl] at t4
  rw [show (tcells [(0, 0, 0), (1, 1, 0)])[5]? = some (.int .i64 0) from rfl] at t5
  obtain ⟨⟨a0, a1, a2⟩, _⟩ := blk_cells3 H3.out
  obtain ⟨⟨b0, b1, b2⟩, _⟩ := blk_cells3 H9.out
  have het := eq_tile
  have hq1 : Cv.teq 3 5 2 3 5 2 = true := by decide
  have hq2 : Cv.teq 1 0 0 1 0 0 = true := by decide
  have hq3 : Cv.teq 1 1 0 1 1 0 = true := by decide
  clear hS hS1 hb hb8 HT hg1 hg2 H3 H9
  go_wp2_with fail
  go_ret
  exact ⟨rfl, hw⟩
end Go.Proofs.YtdipincjginmcaaDoor
