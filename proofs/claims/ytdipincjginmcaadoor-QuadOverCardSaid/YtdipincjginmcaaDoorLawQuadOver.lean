/- The least tile over some, and the way to one: the walk and the law. -/
import Derived.Test.YtdipincjginmcaaDoorCardQuadOver
import Derived.Test.YtdipincjginmcaaDoorHeld2
import Derived.Test.YtdipincjginmcaaDoorQuadOverMath
import Derived.Test.YtdipincjginmcaaDoorQuadTiles
import Derived.Deep.RegionHeld3
import Derived.Deep.DrawnRows
namespace Go.Proofs.YtdipincjginmcaaDoor.quadOver
open Go.RowKit
set_option linter.unusedVariables false

attribute [local go_sem ↓] Go.wp_at_zero Go.wp_at_succ

theorem blk_new (w : World) (o : Obj) : Below w.heap.size w (w.alloc o) := (Below.refl _ _).alloc (Nat.le_refl _) _
theorem bl_drew {X w8 : World} (hb : Below X.drew.heap.size X.drew w8) : Below X.heap.size X w8 := ⟨hb.os, hb.tape, hb.output, hb.size, hb.block⟩
theorem bl_al {a w : World} (h : Below a.heap.size a w) (o : Obj) : Below a.heap.size a (w.alloc o) := h.alloc h.size _
theorem cell_alloc {w : World} {p : Addr} {v : Value} (h : w.cell? p = some v) (o : Obj) : (w.alloc o).cell? p = some v := by
  have hlt : p.block < w.heap.size := by
    rcases Nat.lt_or_ge p.block w.heap.size with hlt | hge
    · exact hlt
    · simp [World.cell?, Array.getElem?_eq_none hge] at h
  exact (((Below.refl w.heap.size w).alloc (Nat.le_refl _) o).cell hlt).trans h
theorem st3 {a w8 : World} {d : Nat} {v0 v1 v2 : Value} (hw : Below a.heap.size a w8) (hd : a.heap.size ≤ d) : Below a.heap.size a (((w8.setCell ⟨d, 0, none⟩ v0).setCell ⟨d, 1, none⟩ v1).setCell ⟨d, 2, none⟩ v2) := ((hw.setCell hd _).setCell hd _).setCell hd _
theorem st3b {w8 : World} {d g : Nat} {O : Obj} {v0 v1 v2 : Value} (h : w8.heap[g]? = some O) (hd : g < d) : (((w8.setCell ⟨d, 0, none⟩ v0).setCell ⟨d, 1, none⟩ v1).setCell ⟨d, 2, none⟩ v2).heap[g]? = some O :=
  (((((Below.refl d w8).setCell (Nat.le_refl _) _).setCell (Nat.le_refl _) _).setCell (Nat.le_refl _) _).block g hd).trans h
theorem six_alloc {w : World} {p1 p2 p3 p4 p5 p6 : Addr} {v1 v2 v3 v4 v5 v6 : Value} (h : (w.cell? p1 = some v1 ∧ w.cell? p2 = some v2 ∧ w.cell? p3 = some v3) ∧ (w.cell? p4 = some v4 ∧ w.cell? p5 = some v5 ∧ w.cell? p6 = some v6)) (o : Obj) :
    ((w.alloc o).cell? p1 = some v1 ∧ (w.alloc o).cell? p2 = some v2 ∧ (w.alloc o).cell? p3 = some v3) ∧ ((w.alloc o).cell? p4 = some v4 ∧ (w.alloc o).cell? p5 = some v5 ∧ (w.alloc o).cell? p6 = some v6) :=
  ⟨⟨cell_alloc h.1.1 o, cell_alloc h.1.2.1 o, cell_alloc h.1.2.2 o⟩, cell_alloc h.2.1 o, cell_alloc h.2.2.1 o, cell_alloc h.2.2.2 o⟩
theorem all_snoc (f : Tl → Bool) (L : List Tl) (k : Nat) (hk : k < L.length) : (L.take (k + 1)).all f = ((L.take k).all f && f (L[k]'hk)) := by
  rw [List.take_succ_eq_append_getElem hk, List.all_append]; simp
theorem all_take (f : Tl → Bool) (L : List Tl) (k : Nat) (hk : k = L.length) (h : (L.take k).all f = true) : ∀ j (hj : j < L.length), f (L[j]'hj) = true := by
  rw [hk, List.take_length] at h
  exact fun j hj => List.all_eq_true.1 h _ (List.getElem_mem hj)
theorem _root_.Go.Proofs.YtdipincjginmcaaDoor.TilesAt.reads {w : World} {B : Nat} {E : TypeId} {v : Value} {L : List Tl} (h : TilesAt w B E v L) : ∃ A c, v = .slice A L.length c ∧ Reads w w.heap.size 3 A L.length (tcells L) := by
  rcases h.forms with ⟨rfl, rfl⟩ | ⟨g, cap, rfl, _, _⟩
  · exact ⟨_, _, rfl, Reads.none_⟩
  · exact ⟨_, _, rfl, Reads.of_own h⟩
section
variable {a a5 W : World} {z x y z' x' y' : Int} {g : Nat} {O Z : Obj} {E : Ending}
theorem com_one (hc : ∀ e, ComR [(z, x, y), (z', x', y')] e → e = E) (hw : Below a.heap.size a W) (hw5 : Below a5.heap.size a5 W) (hA : W.heap[g]? = some O) :
    Calls Tryd.prog 16 #[.slice (some ⟨W.heap.size, 0, none⟩) 2 2] (W.alloc (.cells #[.int .i64 z, .int .i64 x, .int .i64 y, .int .i64 z', .int .i64 x', .int .i64 y'] 30)) fun e w8 => e = E ∧ Below a.heap.size a w8 ∧ Below a5.heap.size a5 w8 ∧ w8.heap[g]? = some O := by
  refine (common_any _ 2 2 [(z, x, y), (z', x', y')] _ _ (Reads.of_own (base := 0) (e := 30) (c := 2) (World.ownsRow_lit _ _ 2 (Nat.zero_le _) (by decide) rfl)) rfl (Nat.le_refl _) (by decide)).mono ?_
  rintro e w8 ⟨he, hb⟩
  exact ⟨hc e he, bthen2 hb (bl_al hw _), bthen2 hb (bl_al hw5 _), blk_keep2 hb (blk_alloc hA _)⟩
theorem com_two (hc : ∀ e, ComR [(z, x, y), (z', x', y')] e → e = E) (hw : Below a.heap.size a W) (hw5 : Below a5.heap.size a5 W) (hA : W.heap[g]? = some O) :
    Calls Tryd.prog 16 #[.slice (some ⟨W.heap.size, 0, none⟩) 2 2] ((W.alloc (.cells #[.int .i64 z, .int .i64 x, .int .i64 y, .int .i64 z', .int .i64 x', .int .i64 y'] 30)).alloc Z) fun e w8 => e = E ∧ Below a.heap.size a w8 ∧ Below a5.heap.size a5 w8 ∧ w8.heap[g]? = some O ∧ w8.heap[W.heap.size + 1]? = some Z := by
  refine (common_any _ 2 2 [(z, x, y), (z', x', y')] _ _ (Reads.of_own (base := 0) (e := 30) (c := 2) ((World.ownsRow_lit _ _ 2 (Nat.zero_le _) (by decide) rfl).alloc _)) rfl (Nat.le_refl _) (by decide)).mono ?_
  rintro e w8 ⟨he, hb⟩
  exact ⟨hc e he, bthen2 hb (bl_al (bl_al hw _) _), bthen2 hb (bl_al (bl_al hw5 _) _), blk_keep2 hb (blk_alloc (blk_alloc hA _) _), (blk_two hb).2.1⟩
theorem com_tri (hc : ∀ e, ComR [(z, x, y), (z', x', y')] e → e = E) (hw : Below a.heap.size a W) (hw5 : Below a5.heap.size a5 W) (hA : W.heap[g]? = some O) :
    Calls Tryd.prog 16 #[.slice (some ⟨W.heap.size + 1, 0, none⟩) 2 2] ((W.alloc Z).alloc (.cells #[.int .i64 z, .int .i64 x, .int .i64 y, .int .i64 z', .int .i64 x', .int .i64 y'] 30)) fun e w8 => e = E ∧ Below a.heap.size a w8 ∧ Below a5.heap.size a5 w8 ∧ w8.heap[g]? = some O ∧ w8.heap[W.heap.size]? = some Z := by
  have hs : W.heap.size + 1 = (W.alloc Z).heap.size := by simp
  rw [hs]
  refine (common_any _ 2 2 [(z, x, y), (z', x', y')] _ _ (Reads.of_own (base := 0) (e := 30) (c := 2) (World.ownsRow_lit _ _ 2 (Nat.zero_le _) (by decide) rfl)) rfl (Nat.le_refl _) (by decide)).mono ?_
  rintro e w8 ⟨he, hb⟩
  exact ⟨hc e he, bthen2 hb (bl_al (bl_al hw _) _), bthen2 hb (bl_al (bl_al hw5 _) _), blk_keep2 hb (blk_alloc (blk_alloc hA _) _), (blk_two hb).1⟩
theorem com_oned (hc : ∀ e, ComR [(z, x, y), (z', x', y')] e → e = E) (hw : Below a.heap.size a W) (hw5 : Below a5.heap.size a5 W) (hA : W.heap[g]? = some O) :
    Calls Tryd.prog 16 #[.slice (some ⟨W.heap.size, 0, none⟩) 2 2] (W.alloc (.cells #[.int .i64 z, .int .i64 x, .int .i64 y, .int .i64 z', .int .i64 x', .int .i64 y'] 30)).drew fun e w8 => e = E ∧ Below a.heap.size a w8 ∧ Below a5.heap.size a5 w8 ∧ w8.heap[g]? = some O := by
  refine (common_any _ 2 2 [(z, x, y), (z', x', y')] _ _ (by exact Reads.of_own (base := 0) (e := 30) (c := 2) (World.ownsRow_lit _ _ 2 (Nat.zero_le _) (by decide) rfl)) rfl (Nat.le_refl _) (by decide)).mono ?_
  rintro e w8 ⟨he, hb'⟩
  have hb := bl_drew hb'
  exact ⟨hc e he, bthen2 hb (bl_al hw _), bthen2 hb (bl_al hw5 _), blk_keep2 hb (blk_alloc hA _)⟩
theorem com_twod (hc : ∀ e, ComR [(z, x, y), (z', x', y')] e → e = E) (hw : Below a.heap.size a W) (hw5 : Below a5.heap.size a5 W) (hA : W.heap[g]? = some O) :
    Calls Tryd.prog 16 #[.slice (some ⟨W.heap.size, 0, none⟩) 2 2] ((W.alloc (.cells #[.int .i64 z, .int .i64 x, .int .i64 y, .int .i64 z', .int .i64 x', .int .i64 y'] 30)).alloc Z).drew fun e w8 => e = E ∧ Below a.heap.size a w8 ∧ Below a5.heap.size a5 w8 ∧ w8.heap[g]? = some O ∧ w8.heap[W.heap.size + 1]? = some Z := by
  refine (common_any _ 2 2 [(z, x, y), (z', x', y')] _ _ (by exact Reads.of_own (base := 0) (e := 30) (c := 2) ((World.ownsRow_lit _ _ 2 (Nat.zero_le _) (by decide) rfl).alloc _)) rfl (Nat.le_refl _) (by decide)).mono ?_
  rintro e w8 ⟨he, hb'⟩
  have hb := bl_drew hb'
  exact ⟨hc e he, bthen2 hb (bl_al (bl_al hw _) _), bthen2 hb (bl_al (bl_al hw5 _) _), blk_keep2 hb (blk_alloc (blk_alloc hA _) _), (blk_two hb).2.1⟩
theorem com_trid (hc : ∀ e, ComR [(z, x, y), (z', x', y')] e → e = E) (hw : Below a.heap.size a W) (hw5 : Below a5.heap.size a5 W) (hA : W.heap[g]? = some O) :
    Calls Tryd.prog 16 #[.slice (some ⟨W.heap.size + 1, 0, none⟩) 2 2] ((W.alloc Z).alloc (.cells #[.int .i64 z, .int .i64 x, .int .i64 y, .int .i64 z', .int .i64 x', .int .i64 y'] 30)).drew fun e w8 => e = E ∧ Below a.heap.size a w8 ∧ Below a5.heap.size a5 w8 ∧ w8.heap[g]? = some O ∧ w8.heap[W.heap.size]? = some Z := by
  have hs : W.heap.size + 1 = (W.alloc Z).heap.size := by simp
  rw [hs]
  refine (common_any _ 2 2 [(z, x, y), (z', x', y')] _ _ (by exact Reads.of_own (base := 0) (e := 30) (c := 2) (World.ownsRow_lit _ _ 2 (Nat.zero_le _) (by decide) rfl)) rfl (Nat.le_refl _) (by decide)).mono ?_
  rintro e w8 ⟨he, hb'⟩
  have hb := bl_drew hb'
  exact ⟨hc e he, bthen2 hb (bl_al (bl_al hw _) _), bthen2 hb (bl_al (bl_al hw5 _) _), blk_keep2 hb (blk_alloc (blk_alloc hA _) _), (blk_two hb).1⟩
end
set_option maxRecDepth 100000 in
set_option maxHeartbeats 10000000 in
theorem walk : Walk := by
  intro w A0 n0 c0_ L0 hr0 hn0 hm0 hc0 z1 x1 y1 wz1 wx1 wy1
  clear hc0
  have HRR := Lib.hid hr0
  have HN := Lib.hid hn0
  have het := eq_tile
  have hnt := neq_tile
  have ht : ∀ a b c : Int, Cv.teq a b c a b c = true := fun a b c => by unfold Cv.teq; simp
  clear wz1 wx1 wy1 hr0 hn0
  by_cases hlen : (n0 : Int) > 20
  · go_enter Tryd.func6, Tryd.ntmps6
    go_wp2_with fail
    have hw : Below w.heap.size w (w.alloc (.cells #[.int .i64 z1, .int .i64 x1, .int .i64 y1] 23)) := (Below.refl _ _).alloc (Nat.le_refl _) _
    refine (awake42 _).mono ?_; rintro e wa ⟨rfl, hb⟩
    replace hw := bthen2 hb hw
    clear hb
    go_wp2_with fail
    go_ret
    exact ⟨rfl, hw⟩
  · have hn20 : n0 ≤ 20 := by omega
    have hw0 := hm0
    clear hm0 hw0
    go_enter Tryd.func6, Tryd.ntmps6
    go_wp2_with fail
    refine (tiles_any _ _ _ L0 w.heap.size _ (HRR.out.alloc (Nat.le_refl _) _) HN.out (by simp) (by omega)).mono ?_; rintro e w1 ⟨v1, rfl, hT1, hb⟩
    obtain ⟨A1, c1, rfl, hR1⟩ := hT1.reads
    obtain ⟨hA, _, hw⟩ := blk_one hb
    have HA := Lib.hid hA
    have HR1 := Lib.hid hR1
    clear hb hA hT1 hR1
    go_wp2_with fail
    refine (common_any _ L0.length c1 L0 _ _ HR1.out rfl (Nat.le_refl _) (by have := HN.out; omega)).mono ?_; rintro e w2 ⟨he, hb⟩
    replace HA := blk_on HA hb
    replace hw := bthen2 hb hw
    unfold ComR at he
    have hov := fun (h : Qc.cb L0 = true) => Qc.ct_over h
    have hmost := fun (h : Qc.cb L0 = true) (a : ∀ j (hj : j < L0.length), Cv.ovB z1 x1 y1 (L0[j]'hj).1 (L0[j]'hj).2.1 (L0[j]'hj).2.2 = true) => Qc.ct_most h a
    obtain ⟨C, hC⟩ : ∃ C, C = Qc.ct L0 := ⟨_, rfl⟩
    obtain ⟨cb, hcb⟩ : ∃ cb, cb = Qc.cb L0 := ⟨_, rfl⟩
    rw [← hC, ← hcb] at he
    rw [← hC, ← hcb] at hov hmost
    obtain ⟨cz, cx, cy⟩ := C
    subst he
    have HOV : Hid (cb = true → ∀ (j : Nat) (hj : j < L0.length), Cv.ovB cz cx cy (L0[j]'hj).1 (L0[j]'hj).2.1 (L0[j]'hj).2.2 = true) := Lib.hid hov
    have HMOST : Hid (cb = true → (∀ j (hj : j < L0.length), Cv.ovB z1 x1 y1 (L0[j]'hj).1 (L0[j]'hj).2.1 (L0[j]'hj).2.2 = true) → Cv.ovB z1 x1 y1 cz cx cy = true) := Lib.hid hmost
    have HC := Lib.hid (heap_alloc_new w2 (.cells #[.int .i64 cz, .int .i64 cx, .int .i64 cy] 30))
    replace HA := Lib.hid (blk_alloc HA.out (.cells #[.int .i64 cz, .int .i64 cx, .int .i64 cy] 30))
    replace hw := bthen2 (blk_new w2 (.cells #[.int .i64 cz, .int .i64 cx, .int .i64 cy] 30)) hw
    clear hb hov hmost hC hcb HR1
    go_wp2_with fail
    go_loopw [7, 8] (fun ca ci wr => ∃ (k : Nat) (b : Bool), k ≤ n0 ∧ ci = .int .i64 k ∧ ca = .bool b ∧ Hid (b = (cb && (L0.take k).all (fun t => Cv.ovB z1 x1 y1 t.1 t.2.1 t.2.2))) ∧ Hid (wr.heap[w.heap.size]? = some (.cells #[.int .i64 z1, .int .i64 x1, .int .i64 y1] 23 (0, 0))) ∧ Hid (wr.heap[w2.heap.size]? = some (.cells #[.int .i64 cz, .int .i64 cx, .int .i64 cy] 30 (0, 0))) ∧ Below w.heap.size w wr) (fun _ ci _ => n0 - (intOf ci).toNat)
    case atStart => exact ⟨0, cb, by omega, rfl, rfl, Lib.hid (by simp), HA, HC, hw⟩
    case round =>
      clear HA HC hw
      obtain ⟨k, b, hk, rfl, rfl, HB, HA, HC, hw⟩ := hrel
      obtain ⟨⟨a0, a1, a2⟩, _⟩ := blk_cells3 HA.out
      obtain ⟨⟨b0, b1, b2⟩, _⟩ := blk_cells3 HC.out
      by_cases hlt : k < n0
      · have hlt' : k < L0.length := by rw [← HN.out]; exact hlt
        obtain ⟨g, off, hA, hgB⟩ := HRR.out.tplain (by omega) HN.out
        have HR' := HRR.out
        rw [hA] at HR'
        subst hA
        have hlk := fun (w' : World) (hb : Below w.heap.size w w') => (HR'.below hb).tile HN.out k hlt'
        have hoverk := fun h => HOV.out h k hlt'
        have hall := all_snoc (fun t => Cv.ovB z1 x1 y1 t.1 t.2.1 t.2.2) L0 k hlt'
        obtain ⟨t, ht⟩ : ∃ t, t = L0[k]'hlt' := ⟨_, rfl⟩
        rw [← ht] at hlk hoverk hall
        obtain ⟨z, x, y⟩ := t
        have HLK : Hid (∀ w', Below w.heap.size w w' → w'.cell? ⟨g, off + k * 3, none⟩ = some (.int .i64 z) ∧ w'.cell? ⟨g, off + k * 3 + 1, none⟩ = some (.int .i64 x) ∧ w'.cell? ⟨g, off + k * 3 + 2, none⟩ = some (.int .i64 y)) := Lib.hid hlk
        obtain ⟨k0, k1, k2⟩ := hlk _ hw
        clear ht HR' hlk
        cases cb with
        | false =>
          have hbf : b = false := by rw [HB.out]; rfl
          subst hbf
          have HB2 : Hid (false = (false && (L0.take (k + 1)).all (fun t => Cv.ovB z1 x1 y1 t.1 t.2.1 t.2.2))) := Lib.hid rfl
          clear hoverk hall
          go_wp2_with fail
          go_quiet (fail)
          go_wp2_with fail
          go_quiet (fail)
          go_wp2_with fail
          exact ⟨⟨k + 1, false, by omega, by go_num, rfl, HB2, HA, HC, by first | exact hw | exact Below.drew hw | exact bdraws hw _⟩, by simp [intOf]; omega⟩
        | true =>
          have hov := hoverk rfl
          have HAL := Lib.hid hall
          clear hoverk hall
          cases b with
          | false =>
            have HB2 : Hid (false = (true && (L0.take (k + 1)).all (fun t => Cv.ovB z1 x1 y1 t.1 t.2.1 t.2.2))) := Lib.hid (by have h := HB.out; rw [Bool.true_and] at h ⊢; rw [HAL.out, ← h]; rfl)
            go_wp2_with fail
            go_region_held3 (fun w' => (w'.cell? ⟨w.heap.size, 0, none⟩ = some (.int .i64 z1) ∧ w'.cell? ⟨w.heap.size, 1, none⟩ = some (.int .i64 x1) ∧ w'.cell? ⟨w.heap.size, 2, none⟩ = some (.int .i64 y1)) ∧ (w'.cell? ⟨w2.heap.size, 0, none⟩ = some (.int .i64 cz) ∧ w'.cell? ⟨w2.heap.size, 1, none⟩ = some (.int .i64 cx) ∧ w'.cell? ⟨w2.heap.size, 2, none⟩ = some (.int .i64 cy)) ∧ (w'.cell? ⟨g, off + k * 3, none⟩ = some (.int .i64 z) ∧ w'.cell? ⟨g, off + k * 3 + 1, none⟩ = some (.int .i64 x) ∧ w'.cell? ⟨g, off + k * 3 + 2, none⟩ = some (.int .i64 y))) (exact ⟨⟨a0, a1, a2⟩, ⟨b0, b1, b2⟩, ⟨k0, k1, k2⟩⟩) ((go_at_call 24; refine (over_any _ _ _ _ _ _ _).mono ?_; rintro e w8 ⟨rfl, hb8⟩; have hw := bthen2 hb8 (by first | exact hw | exact Below.drew hw | exact bdraws hw _); have HA := Lib.hid (blk_keep2 hb8 HA.out); have HC := Lib.hid (blk_keep2 hb8 HC.out); obtain ⟨⟨a0, a1, a2⟩, _⟩ := blk_cells3 HA.out; obtain ⟨⟨b0, b1, b2⟩, _⟩ := blk_cells3 HC.out; obtain ⟨k0, k1, k2⟩ := HLK.out _ hw))
            all_goals
              go_wp2_with fail
              go_quiet (fail)
              replace hw := bdraws hw nq
              go_wp2_with fail
              exact ⟨⟨k + 1, false, by omega, by go_num, rfl, HB2, HA, HC, by first | exact hw | exact Below.drew hw | exact bdraws hw _⟩, by simp [intOf]; omega⟩
          | true =>
            have HB2 : Hid (Cv.ovB z1 x1 y1 z x y = (true && (L0.take (k + 1)).all (fun t => Cv.ovB z1 x1 y1 t.1 t.2.1 t.2.2))) := Lib.hid (by have h := HB.out; rw [Bool.true_and] at h ⊢; rw [HAL.out, ← h, Bool.true_and])
            go_wp2_with fail
            go_region_held3 (fun w' => (w'.cell? ⟨w.heap.size, 0, none⟩ = some (.int .i64 z1) ∧ w'.cell? ⟨w.heap.size, 1, none⟩ = some (.int .i64 x1) ∧ w'.cell? ⟨w.heap.size, 2, none⟩ = some (.int .i64 y1)) ∧ (w'.cell? ⟨w2.heap.size, 0, none⟩ = some (.int .i64 cz) ∧ w'.cell? ⟨w2.heap.size, 1, none⟩ = some (.int .i64 cx) ∧ w'.cell? ⟨w2.heap.size, 2, none⟩ = some (.int .i64 cy)) ∧ (w'.cell? ⟨g, off + k * 3, none⟩ = some (.int .i64 z) ∧ w'.cell? ⟨g, off + k * 3 + 1, none⟩ = some (.int .i64 x) ∧ w'.cell? ⟨g, off + k * 3 + 2, none⟩ = some (.int .i64 y))) (exact ⟨⟨a0, a1, a2⟩, ⟨b0, b1, b2⟩, ⟨k0, k1, k2⟩⟩) ((go_at_call 24; refine (over_any _ _ _ _ _ _ _).mono ?_; rintro e w8 ⟨rfl, hb8⟩; have hw := bthen2 hb8 (by first | exact hw | exact Below.drew hw | exact bdraws hw _); have HA := Lib.hid (blk_keep2 hb8 HA.out); have HC := Lib.hid (blk_keep2 hb8 HC.out); obtain ⟨⟨a0, a1, a2⟩, _⟩ := blk_cells3 HA.out; obtain ⟨⟨b0, b1, b2⟩, _⟩ := blk_cells3 HC.out; obtain ⟨k0, k1, k2⟩ := HLK.out _ hw))
            all_goals
              go_wp2_with fail
              go_region_held3 (fun w' => (w'.cell? ⟨w.heap.size, 0, none⟩ = some (.int .i64 z1) ∧ w'.cell? ⟨w.heap.size, 1, none⟩ = some (.int .i64 x1) ∧ w'.cell? ⟨w.heap.size, 2, none⟩ = some (.int .i64 y1)) ∧ (w'.cell? ⟨w2.heap.size, 0, none⟩ = some (.int .i64 cz) ∧ w'.cell? ⟨w2.heap.size, 1, none⟩ = some (.int .i64 cx) ∧ w'.cell? ⟨w2.heap.size, 2, none⟩ = some (.int .i64 cy)) ∧ (w'.cell? ⟨g, off + k * 3, none⟩ = some (.int .i64 z) ∧ w'.cell? ⟨g, off + k * 3 + 1, none⟩ = some (.int .i64 x) ∧ w'.cell? ⟨g, off + k * 3 + 2, none⟩ = some (.int .i64 y))) (exact ⟨⟨a0, a1, a2⟩, ⟨b0, b1, b2⟩, ⟨k0, k1, k2⟩⟩) ((go_at_call 24; refine (over_any _ _ _ _ _ _ _).mono ?_; rintro e w8 ⟨rfl, hb8⟩; have hw := bthen2 hb8 (by first | exact hw | exact Below.drew hw | exact bdraws hw _); have HA := Lib.hid (blk_keep2 hb8 HA.out); have HC := Lib.hid (blk_keep2 hb8 HC.out); obtain ⟨⟨a0, a1, a2⟩, _⟩ := blk_cells3 HA.out; obtain ⟨⟨b0, b1, b2⟩, _⟩ := blk_cells3 HC.out; obtain ⟨k0, k1, k2⟩ := HLK.out _ hw))
              all_goals
                go_wp2_with fail
                exact ⟨⟨k + 1, _, by omega, by go_num, rfl, HB2, HA, HC, by first | exact hw | exact Below.drew hw | exact bdraws hw _⟩, by simp [intOf]; omega⟩
      · obtain rfl : k = n0 := by omega
        clear HRR
        cases b with
        | true =>
          have hcbt : cb = true := by
            have h := HB.out
            cases cb with
            | true => rfl
            | false => exact h.symm
          have hmo := HMOST.out hcbt (all_take (fun t => Cv.ovB z1 x1 y1 t.1 t.2.1 t.2.2) L0 k HN.out (by have h := HB.out; rw [hcbt, Bool.true_and] at h; exact h.symm))
          clear HOV HMOST
          go_wp2_with fail
          refine (over_any _ _ _ _ _ _ _).mono ?_; rintro e w4 ⟨rfl, hb⟩
          replace HA := blk_on HA hb
          replace hw := bthen2 hb hw
          clear hb a0 a1 a2 b0 b1 b2 HC
          obtain ⟨⟨a0, a1, a2⟩, _⟩ := blk_cells3 HA.out
          go_wp2_with fail
          clear hmo
          refine (way_any _ _ _ _).mono ?_; rintro e w5 ⟨v5, rfl, hT5, hb⟩
          replace HA := blk_on HA hb
          replace hw := bthen2 hb hw
          clear hb a0 a1 a2
          rcases Bool.eq_false_or_eq_true (Cv.okB z1 x1 y1) with h | h
          · have hpe := Cv.pe_ok h
            obtain ⟨⟨hz0, hz1⟩, hx0, hx1, hy0, hy1⟩ := Cv.ok_in h
            have hway : Qw.way z1 x1 y1 = Qw.upto z1.toNat x1.toNat y1.toNat (z1.toNat + 1) := by unfold Qw.way; rw [if_pos h]
            rw [hway] at hT5
            obtain ⟨zn, hzn⟩ : ∃ zn, zn = z1.toNat := ⟨_, rfl⟩
            obtain ⟨xn, hxn⟩ : ∃ xn, xn = x1.toNat := ⟨_, rfl⟩
            obtain ⟨yn, hyn⟩ : ∃ yn, yn = y1.toNat := ⟨_, rfl⟩
            rw [← hzn, ← hxn, ← hyn] at hT5
            have ez : z1 = (zn : Int) := by omega
            have hzz : zn ≤ 26 := by omega
            have hxx : xn < 2 ^ zn := by rw [hzn, hxn]; omega
            have hyy : yn < 2 ^ zn := by rw [hzn, hyn]; omega
            have hatx : ∀ n, n ≤ zn → Qc.ok (Qw.at zn xn yn n) = true := fun n hn => (Qw.at_in hzz hxx hyy hn).1
            have hovr := fun (n m : Nat) (hnm : n ≤ m) (hm : m ≤ zn) => Qw.at_over hzz hxx hyy hnm hm
            have hlast := Qw.at_last zn xn yn
            have ext : ((zn : Int), (xn : Int), (yn : Int)) = (z1, x1, y1) := by
              refine Prod.ext (by omega) (Prod.ext ?_ ?_)
              · show (xn : Int) = x1; omega
              · show (yn : Int) = y1; omega
            rw [ext] at hlast
            have HAT := Lib.hid hatx
            have HOVR := Lib.hid hovr
            have HLAST := Lib.hid hlast
            have HPE : Hid (Cv.pe z1 x1 y1 = 0) := Lib.hid hpe
            obtain ⟨g5, c5, rfl, hg5, hc5⟩ := hT5.formed (by rw [Qw.upto_len]; omega)
            have hcell : Hid (∀ k, k ≤ zn → ∀ w', Below w5.heap.size w5 w' → w'.cell? ⟨g5, k * 3, none⟩ = some (.int .i64 (k : Int)) ∧ w'.cell? ⟨g5, k * 3 + 1, none⟩ = some (.int .i64 (Qw.at zn xn yn k).2.1) ∧ w'.cell? ⟨g5, k * 3 + 2, none⟩ = some (.int .i64 (Qw.at zn xn yn k).2.2)) := Lib.hid (fun k hk w' hb => by
              have hkl : k < (Qw.upto zn xn yn (zn + 1)).length := by rw [Qw.upto_len]; omega
              obtain ⟨q0, q1, q2⟩ := tcells_get (Qw.upto zn xn yn (zn + 1)) k hkl
              have hget : (Qw.upto zn xn yn (zn + 1))[k]'hkl = Qw.at zn xn yn k := by simp [Qw.upto]
              rw [hget] at q0 q1 q2
              rw [Qw.upto_len] at hc5
              have cc := fun o => hb.cell (p := (⟨g5, o, none⟩ : Addr)) hg5
              exact ⟨(cc _).trans ((hc5 (k * 3) (by omega)).trans q0), (cc _).trans ((hc5 (k * 3 + 1) (by omega)).trans q1), (cc _).trans ((hc5 (k * 3 + 2) (by omega)).trans q2)⟩)
            rw [Qw.upto_len]
            subst ez
            have q1 : (zn : Int) + 1 > 0 := by omega
            have q2 : ((zn : Int) + 1 == 0) = false := by rw [beq_eq_false_iff_ne]; omega
            have q3 : (zn : Int) < (zn : Int) + 1 := by omega
            have q4 : (zn : Int) ≤ 26 := by omega
            have q5 : (0 : Int) ≤ (zn : Int) := by omega
            clear hway hz0 hz1 hx0 hx1 hy0 hy1 hzn hxn hyn hxx hyy hatx hovr hlast ext hpe h hT5 hc5
            go_wp2_with fail
            have hw5 := Below.refl w5.heap.size w5
            go_loopw [10] (fun ci wr => ∃ k : Nat, k ≤ zn + 1 ∧ ci = .int .i64 k ∧ Hid (wr.heap[w.heap.size]? = some (.cells #[.int .i64 (zn : Int), .int .i64 x1, .int .i64 y1] 23 (0, 0))) ∧ Below w.heap.size w wr ∧ Below w5.heap.size w5 wr) (fun ci _ => zn + 1 - (intOf ci).toNat)
            case atStart => exact ⟨0, by omega, rfl, HA, hw, hw5⟩
            case round =>
              clear HA hw hw5
              obtain ⟨k, hk, rfl, HA, hw, hw5⟩ := hrel
              obtain ⟨⟨a0, a1, a2⟩, _⟩ := blk_cells3 HA.out
              by_cases hlt : k ≤ zn
              · have b2 : (k : Int) < (zn : Int) + 1 := by omega
                have hwk : Qw.at zn xn yn k = ((k : Int), (Qw.at zn xn yn k).2.1, (Qw.at zn xn yn k).2.2) := rfl
                have hck := hcell.out k hlt
                have htwo := Qc.two (HAT.out k hlt) (HAT.out zn (Nat.le_refl _)) (HOVR.out k zn hlt (Nat.le_refl _))
                rw [HLAST.out, hwk] at htwo
                have hprev : ∀ m, k = m + 1 → Cv.ovB (m : Int) (Qw.at zn xn yn m).2.1 (Qw.at zn xn yn m).2.2 (k : Int) (Qw.at zn xn yn k).2.1 (Qw.at zn xn yn k).2.2 = true := fun m hm => (ov_key (by exact HAT.out m (by omega)) (by exact HAT.out k hlt)).2 (by exact HOVR.out m k (by omega) hlt)
                obtain ⟨X, hX⟩ : ∃ X, X = (Qw.at zn xn yn k).2.1 := ⟨_, rfl⟩
                obtain ⟨Y, hY⟩ : ∃ Y, Y = (Qw.at zn xn yn k).2.2 := ⟨_, rfl⟩
                rw [← hX, ← hY] at hck htwo hprev
                have HCOM : Hid (∀ e, ComR [((k : Int), X, Y), ((zn : Int), x1, y1)] e → e = .returned (.tuple #[.agg #[.int .i64 (k : Int), .int .i64 X, .int .i64 Y], .bool true])) := Lib.hid (fun e he => by unfold ComR at he; rw [htwo.1, htwo.2] at he; exact he)
                have HCK := Lib.hid hck
                have HPREV := Lib.hid hprev
                clear hwk hck htwo hprev hX hY
                have qk0 : (0 : Int) ≤ (k : Int) := by omega
                obtain ⟨m0, m1, m2⟩ := HCK.out _ hw5
                rcases Nat.eq_zero_or_pos k with hk0 | hk0
                · have q9 : ¬ (k : Int) > 0 := by omega
                  have q12 : ¬ 0 < k := by omega
                  clear hk0
                  go_wp2_with fail
                  go_quiet (fail)
                  replace hw := bdraws hw nq
                  replace hw5 := bdraws hw5 nq
                  go_wp2_with fail
                  have HZ : Hid (w.heap.size < wr.heap.size) := Lib.hid (by have := blk_lt HA.out; exact this)
                  have HZ5 : Hid (w5.heap.size ≤ wr.heap.size) := Lib.hid (by have := hw5.size; exact this)
                  refine wp_region_held_drew (S := (fun w' => (w'.cell? ⟨w.heap.size, 0, none⟩ = some (.int .i64 (zn : Int)) ∧ w'.cell? ⟨w.heap.size, 1, none⟩ = some (.int .i64 x1) ∧ w'.cell? ⟨w.heap.size, 2, none⟩ = some (.int .i64 y1)) ∧ (w'.cell? ⟨g5, k * 3, none⟩ = some (.int .i64 (k : Int)) ∧ w'.cell? ⟨g5, k * 3 + 1, none⟩ = some (.int .i64 X) ∧ w'.cell? ⟨g5, k * 3 + 2, none⟩ = some (.int .i64 Y)))) (by kernel_rfl) (by (try dsimp only); exact ⟨⟨a0, a1, a2⟩, m0, m1, m2⟩) (fun hHeld => ?_)
                  simp only [List.size_toArray, List.length_cons, List.length_nil, Nat.zero_add, Nat.reduceAdd]
                  refine held_take (i := 0) (v := ?_) rfl (by kernel_rfl) (by kernel_rfl) (by kernel_rfl) (fun _ _ _ h => h) (by rfl) ?_ (by assumption) ?_
                  rotate_left
                  · intro w hSw
                    (try dsimp only at hSw)
                    go_simp
                    try with_reducible rfl
                  try simp only [Act.put, List.setIfInBounds_toArray, List.set_cons_zero, List.set_cons_succ]
                  refine held_take (i := 1) (v := ?_) rfl (by kernel_rfl) (by kernel_rfl) (by kernel_rfl) (fun _ _ _ h => h) (by rfl) ?_ (by assumption) ?_
                  rotate_left
                  · intro w hSw
                    (try dsimp only at hSw)
                    go_simp
                    try with_reducible rfl
                  try simp only [Act.put, List.setIfInBounds_toArray, List.set_cons_zero, List.set_cons_succ]
                  refine held_take (i := 2) (v := ?_) rfl (by kernel_rfl) (by kernel_rfl) (by kernel_rfl) (fun _ _ _ h => h) (by rfl) ?_ (by assumption) ?_
                  rotate_left
                  · intro w hSw
                    (try dsimp only at hSw)
                    go_simp
                    try with_reducible rfl
                  try simp only [Act.put, List.setIfInBounds_toArray, List.set_cons_zero, List.set_cons_succ]
                  refine held_take (i := 3) (v := ?_) rfl (by kernel_rfl) (by kernel_rfl) (by kernel_rfl) (fun _ _ _ h => h) (by rfl) ?_ (by assumption) ?_
                  rotate_left
                  · intro w hSw
                    (try dsimp only at hSw)
                    go_simp
                    try with_reducible rfl
                  try simp only [Act.put, List.setIfInBounds_toArray, List.set_cons_zero, List.set_cons_succ]
                  refine held_take (i := 4) (v := ?_) rfl (by kernel_rfl) (by kernel_rfl) (by kernel_rfl) (fun _ _ _ h => h) (by rfl) ?_ (by assumption) ?_
                  rotate_left
                  · intro w hSw
                    (try dsimp only at hSw)
                    go_simp
                    try with_reducible rfl
                  try simp only [Act.put, List.setIfInBounds_toArray, List.set_cons_zero, List.set_cons_succ]
                  refine held_two (i := 5) (j := 10) (by kernel_rfl) rfl rfl (fun K hK => ?_) (fun K hK => ?_)
                  · go_simp

                    refine hK.out _ _ (by (try dsimp only); exact six_alloc hHeld _) (fun hHeld => ?_)
                    clear hK K
                    try simp only [Act.put, List.setIfInBounds_toArray, List.set_cons_zero, List.set_cons_succ]
                    refine held_two (i := 6) (j := 10) (by kernel_rfl) rfl rfl (fun K hK => ?_) (fun K hK => ?_)
                    · go_simp
                      refine (com_one (by exact HCOM.out) (by first | exact hw | exact Below.drew hw | exact bdraws hw 1) (by first | exact hw5 | exact Below.drew hw5 | exact bdraws hw5 1) (by exact HA.out)).mono ?_; rintro e w9 ⟨rfl, hw, hw5, hA8⟩; have HA := Lib.hid hA8; obtain ⟨⟨a0, a1, a2⟩, _⟩ := blk_cells3 HA.out; obtain ⟨m0, m1, m2⟩ := HCK.out _ hw5
                      refine hK.out _ _ (by (try dsimp only); first | (with_reducible exact ⟨⟨a0, a1, a2⟩, m0, m1, m2⟩) | exact six_alloc hHeld _) (fun hHeld => ?_)
                      clear hK K
                      try simp only [Act.put, List.setIfInBounds_toArray, List.set_cons_zero, List.set_cons_succ]
                      refine held_take (i := 7) (v := ?_) rfl (by kernel_rfl) (by kernel_rfl) (by kernel_rfl) (fun _ _ _ h => h) (by rfl) ?_ (by assumption) ?_
                      rotate_left
                      · intro w hSw
                        (try dsimp only at hSw)
                        go_simp
                        try with_reducible rfl
                      try simp only [Act.put, List.setIfInBounds_toArray, List.set_cons_zero, List.set_cons_succ]
                      refine held_take (i := 8) (v := ?_) rfl (by kernel_rfl) (by kernel_rfl) (by kernel_rfl) (fun _ _ _ h => h) (by rfl) ?_ (by assumption) ?_
                      rotate_left
                      · intro w hSw
                        (try dsimp only at hSw)
                        go_simp
                        try with_reducible rfl
                      try simp only [Act.put, List.setIfInBounds_toArray, List.set_cons_zero, List.set_cons_succ]
                      refine held_take (i := 9) (v := ?_) rfl (by kernel_rfl) (by kernel_rfl) (by kernel_rfl) (fun _ _ _ h => h) (by rfl) ?_ (by assumption) ?_
                      rotate_left
                      · intro w hSw
                        (try dsimp only at hSw)
                        go_simp
                        try with_reducible rfl
                      try simp only [Act.put, List.setIfInBounds_toArray, List.set_cons_zero, List.set_cons_succ]
                      refine held_call (i := 10) (by kernel_rfl) rfl (fun K hK => ?_)
                      go_simp

                      refine hK.out _ _ (by (try dsimp only); exact six_alloc hHeld _) (fun hHeld => ?_)
                      clear hK K
                      try simp only [Act.put, List.setIfInBounds_toArray, List.set_cons_zero, List.set_cons_succ]
                      refine held_call (i := 11) (by kernel_rfl) rfl (fun K hK => ?_)
                      go_simp

                      refine hK.out _ _ (by (try dsimp only); exact six_alloc ⟨⟨a0, a1, a2⟩, m0, m1, m2⟩ _) (fun hHeld => ?_)
                      clear hK K
                      try simp only [Act.put, List.setIfInBounds_toArray, List.set_cons_zero, List.set_cons_succ]
                      refine held_take (i := 12) (v := ?_) rfl (by kernel_rfl) (by kernel_rfl) (by kernel_rfl) (fun _ _ _ h => h) (by rfl) ?_ (by assumption) ?_
                      rotate_left
                      · intro w hSw
                        (try dsimp only at hSw)
                        go_simp
                        try with_reducible rfl
                      try simp only [Act.put, List.setIfInBounds_toArray, List.set_cons_zero, List.set_cons_succ]
                      refine wpAnyH_done (by kernel_rfl) ?_ _
                      go_wp2_with fail
                      go_quiet (fail)
                      go_wp2_with fail
                      exact ⟨⟨k + 1, by omega, by go_num, by first | exact HA | exact Lib.hid (by repeat (first | exact HA.out | refine blk_alloc ?_ _)), by first | exact hw | exact bdraws hw _ | exact bdraws (bl_al hw _) _ | exact bl_al hw _, by first | exact hw5 | exact bdraws hw5 _ | exact bdraws (bl_al hw5 _) _ | exact bl_al hw5 _⟩, by simp [intOf]; omega⟩
                    · go_simp

                      refine hK.out _ _ (by (try dsimp only); first | (with_reducible exact ⟨⟨a0, a1, a2⟩, m0, m1, m2⟩) | exact six_alloc hHeld _) (fun hHeld => ?_)
                      clear hK K
                      try simp only [Act.put, List.setIfInBounds_toArray, List.set_cons_zero, List.set_cons_succ]
                      refine held_call (i := 6) (by kernel_rfl) rfl (fun K hK => ?_)
                      go_simp
                      refine (com_two (by exact HCOM.out) (by first | exact hw | exact Below.drew hw | exact bdraws hw 1) (by first | exact hw5 | exact Below.drew hw5 | exact bdraws hw5 1) (by exact HA.out)).mono ?_; rintro e w9 ⟨rfl, hw, hw5, hA8, hD8⟩; have HD := hD8; (try simp only [World.heap_drewN] at HD); obtain ⟨⟨d0, d1, d2⟩, g0, g1, g2⟩ := blk_cells3 HD; have HA := Lib.hid hA8; obtain ⟨⟨a0, a1, a2⟩, _⟩ := blk_cells3 HA.out; obtain ⟨m0, m1, m2⟩ := HCK.out _ hw5
                      refine hK.out _ _ (by (try dsimp only); exact ⟨⟨a0, a1, a2⟩, m0, m1, m2⟩) (fun hHeld => ?_)
                      clear hK K
                      try simp only [Act.put, List.setIfInBounds_toArray, List.set_cons_zero, List.set_cons_succ]
                      refine held_take (i := 7) (v := ?_) rfl (by kernel_rfl) (by kernel_rfl) (by kernel_rfl) (fun _ _ _ h => h) (by rfl) ?_ (by assumption) ?_
                      rotate_left
                      · intro w hSw
                        (try dsimp only at hSw)
                        go_simp
                        try with_reducible rfl
                      try simp only [Act.put, List.setIfInBounds_toArray, List.set_cons_zero, List.set_cons_succ]
                      refine held_take (i := 8) (v := ?_) rfl (by kernel_rfl) (by kernel_rfl) (by kernel_rfl) (fun _ _ _ h => h) (by rfl) ?_ (by assumption) ?_
                      rotate_left
                      · intro w hSw
                        (try dsimp only at hSw)
                        go_simp
                        try with_reducible rfl
                      try simp only [Act.put, List.setIfInBounds_toArray, List.set_cons_zero, List.set_cons_succ]
                      refine held_take (i := 9) (v := ?_) rfl (by kernel_rfl) (by kernel_rfl) (by kernel_rfl) (fun _ _ _ h => h) (by rfl) ?_ (by assumption) ?_
                      rotate_left
                      · intro w hSw
                        (try dsimp only at hSw)
                        go_simp
                        try with_reducible rfl
                      try simp only [Act.put, List.setIfInBounds_toArray, List.set_cons_zero, List.set_cons_succ]
                      refine held_call (i := 11) (by kernel_rfl) rfl (fun K hK => ?_)
                      go_simp
                      have hw := st3 (d := wr.heap.size + 1) (v0 := .int .i64 (k : Int)) (v1 := .int .i64 X) (v2 := .int .i64 Y) hw (by have := HZ.out; omega); have hw5 := st3 (d := wr.heap.size + 1) (v0 := .int .i64 (k : Int)) (v1 := .int .i64 X) (v2 := .int .i64 Y) hw5 (by have := HZ5.out; omega); have HA := Lib.hid (st3b (d := wr.heap.size + 1) (v0 := .int .i64 (k : Int)) (v1 := .int .i64 X) (v2 := .int .i64 Y) HA.out (by have := HZ.out; omega)); obtain ⟨⟨a0, a1, a2⟩, _⟩ := blk_cells3 HA.out; obtain ⟨m0, m1, m2⟩ := HCK.out _ hw5
                      refine hK.out _ _ (by (try dsimp only); exact ⟨⟨a0, a1, a2⟩, m0, m1, m2⟩) (fun hHeld => ?_)
                      clear hK K
                      try simp only [Act.put, List.setIfInBounds_toArray, List.set_cons_zero, List.set_cons_succ]
                      refine held_take (i := 12) (v := ?_) rfl (by kernel_rfl) (by kernel_rfl) (by kernel_rfl) (fun _ _ _ h => h) (by rfl) ?_ (by assumption) ?_
                      rotate_left
                      · intro w hSw
                        (try dsimp only at hSw)
                        go_simp
                        try with_reducible rfl
                      try simp only [Act.put, List.setIfInBounds_toArray, List.set_cons_zero, List.set_cons_succ]
                      refine wpAnyH_done (by kernel_rfl) ?_ _
                      go_wp2_with fail
                      go_quiet (fail)
                      go_wp2_with fail
                      exact ⟨⟨k + 1, by omega, by go_num, by first | exact HA | exact Lib.hid (by repeat (first | exact HA.out | refine blk_alloc ?_ _)), by first | exact hw | exact bdraws hw _ | exact bdraws (bl_al hw _) _ | exact bl_al hw _, by first | exact hw5 | exact bdraws hw5 _ | exact bdraws (bl_al hw5 _) _ | exact bl_al hw5 _⟩, by simp [intOf]; omega⟩
                  · go_simp

                    refine hK.out _ _ (by (try dsimp only); exact six_alloc hHeld _) (fun hHeld => ?_)
                    clear hK K
                    try simp only [Act.put, List.setIfInBounds_toArray, List.set_cons_zero, List.set_cons_succ]
                    refine held_call (i := 5) (by kernel_rfl) rfl (fun K hK => ?_)
                    go_simp

                    refine hK.out _ _ (by (try dsimp only); exact six_alloc hHeld _) (fun hHeld => ?_)
                    clear hK K
                    try simp only [Act.put, List.setIfInBounds_toArray, List.set_cons_zero, List.set_cons_succ]
                    refine held_call (i := 6) (by kernel_rfl) rfl (fun K hK => ?_)
                    go_simp
                    refine (com_tri (by exact HCOM.out) (by first | exact hw | exact Below.drew hw | exact bdraws hw 1) (by first | exact hw5 | exact Below.drew hw5 | exact bdraws hw5 1) (by exact HA.out)).mono ?_; rintro e w9 ⟨rfl, hw, hw5, hA8, hD8⟩; have HD := hD8; (try simp only [World.heap_drewN] at HD); obtain ⟨⟨d0, d1, d2⟩, g0, g1, g2⟩ := blk_cells3 HD; have HA := Lib.hid hA8; obtain ⟨⟨a0, a1, a2⟩, _⟩ := blk_cells3 HA.out; obtain ⟨m0, m1, m2⟩ := HCK.out _ hw5
                    refine hK.out _ _ (by (try dsimp only); exact ⟨⟨a0, a1, a2⟩, m0, m1, m2⟩) (fun hHeld => ?_)
                    clear hK K
                    try simp only [Act.put, List.setIfInBounds_toArray, List.set_cons_zero, List.set_cons_succ]
                    refine held_take (i := 7) (v := ?_) rfl (by kernel_rfl) (by kernel_rfl) (by kernel_rfl) (fun _ _ _ h => h) (by rfl) ?_ (by assumption) ?_
                    rotate_left
                    · intro w hSw
                      (try dsimp only at hSw)
                      go_simp
                      try with_reducible rfl
                    try simp only [Act.put, List.setIfInBounds_toArray, List.set_cons_zero, List.set_cons_succ]
                    refine held_take (i := 8) (v := ?_) rfl (by kernel_rfl) (by kernel_rfl) (by kernel_rfl) (fun _ _ _ h => h) (by rfl) ?_ (by assumption) ?_
                    rotate_left
                    · intro w hSw
                      (try dsimp only at hSw)
                      go_simp
                      try with_reducible rfl
                    try simp only [Act.put, List.setIfInBounds_toArray, List.set_cons_zero, List.set_cons_succ]
                    refine held_take (i := 9) (v := ?_) rfl (by kernel_rfl) (by kernel_rfl) (by kernel_rfl) (fun _ _ _ h => h) (by rfl) ?_ (by assumption) ?_
                    rotate_left
                    · intro w hSw
                      (try dsimp only at hSw)
                      go_simp
                      try with_reducible rfl
                    try simp only [Act.put, List.setIfInBounds_toArray, List.set_cons_zero, List.set_cons_succ]
                    refine held_call (i := 11) (by kernel_rfl) rfl (fun K hK => ?_)
                    go_simp
                    have hw := st3 (d := wr.heap.size) (v0 := .int .i64 (k : Int)) (v1 := .int .i64 X) (v2 := .int .i64 Y) hw (by have := HZ.out; omega); have hw5 := st3 (d := wr.heap.size) (v0 := .int .i64 (k : Int)) (v1 := .int .i64 X) (v2 := .int .i64 Y) hw5 (by have := HZ5.out; omega); have HA := Lib.hid (st3b (d := wr.heap.size) (v0 := .int .i64 (k : Int)) (v1 := .int .i64 X) (v2 := .int .i64 Y) HA.out (by have := HZ.out; omega)); obtain ⟨⟨a0, a1, a2⟩, _⟩ := blk_cells3 HA.out; obtain ⟨m0, m1, m2⟩ := HCK.out _ hw5
                    refine hK.out _ _ (by (try dsimp only); exact ⟨⟨a0, a1, a2⟩, m0, m1, m2⟩) (fun hHeld => ?_)
                    clear hK K
                    try simp only [Act.put, List.setIfInBounds_toArray, List.set_cons_zero, List.set_cons_succ]
                    refine held_take (i := 12) (v := ?_) rfl (by kernel_rfl) (by kernel_rfl) (by kernel_rfl) (fun _ _ _ h => h) (by rfl) ?_ (by assumption) ?_
                    rotate_left
                    · intro w hSw
                      (try dsimp only at hSw)
                      go_simp
                      try with_reducible rfl
                    try simp only [Act.put, List.setIfInBounds_toArray, List.set_cons_zero, List.set_cons_succ]
                    refine wpAnyH_done (by kernel_rfl) ?_ _
                    go_wp2_with fail
                    go_quiet (fail)
                    go_wp2_with fail
                    exact ⟨⟨k + 1, by omega, by go_num, by first | exact HA | exact Lib.hid (by repeat (first | exact HA.out | refine blk_alloc ?_ _)), by first | exact hw | exact bdraws hw _ | exact bdraws (bl_al hw _) _ | exact bl_al hw _, by first | exact hw5 | exact bdraws hw5 _ | exact bdraws (bl_al hw5 _) _ | exact bl_al hw5 _⟩, by simp [intOf]; omega⟩
                · have q9 : (k : Int) > 0 := by omega
                  obtain ⟨m, hm⟩ : ∃ m, k = m + 1 := ⟨k - 1, by omega⟩
                  have hkm : (k : Int) - 1 = (m : Int) := by omega
                  have hov := HPREV.out m hm
                  have hcm := hcell.out m (by omega)
                  obtain ⟨X2, hX2⟩ : ∃ X2, X2 = (Qw.at zn xn yn m).2.1 := ⟨_, rfl⟩
                  obtain ⟨Y2, hY2⟩ : ∃ Y2, Y2 = (Qw.at zn xn yn m).2.2 := ⟨_, rfl⟩
                  rw [← hX2, ← hY2] at hov hcm
                  have HCM := Lib.hid hcm
                  have q10 : (m : Int) < (zn : Int) + 1 := by omega
                  have q11 : (0 : Int) ≤ (m : Int) := by omega
                  have q17 : (m : Int) < ((zn + 1 : Nat) : Int) := by omega
                  have q13 : IntKind.i64.wrap ((k : Int) - 1) = (m : Int) := by rw [IntKind.wrap_i64]; omega
                  have q14 : wrap64 ((k : Int) - 1) = (m : Int) := by rw [hkm]; exact i64w (by omega) (by omega)
                  have q15 : IntKind.i64.wrap (m : Int) = (m : Int) := by rw [IntKind.wrap_i64]; omega
                  have q16 : wrap64 (m : Int) = (m : Int) := i64w (by omega) (by omega)
                  clear hcm hX2 hY2 hm
                  obtain ⟨p0, p1, p2⟩ := HCM.out _ hw5
                  go_wp2_with fail
                  refine wp_region_held_drew (S := (fun w' => (w'.cell? ⟨w.heap.size, 0, none⟩ = some (.int .i64 (zn : Int)) ∧ w'.cell? ⟨w.heap.size, 1, none⟩ = some (.int .i64 x1) ∧ w'.cell? ⟨w.heap.size, 2, none⟩ = some (.int .i64 y1)) ∧ (w'.cell? ⟨g5, k * 3, none⟩ = some (.int .i64 (k : Int)) ∧ w'.cell? ⟨g5, k * 3 + 1, none⟩ = some (.int .i64 X) ∧ w'.cell? ⟨g5, k * 3 + 2, none⟩ = some (.int .i64 Y)) ∧ (w'.cell? ⟨g5, m * 3, none⟩ = some (.int .i64 (m : Int)) ∧ w'.cell? ⟨g5, m * 3 + 1, none⟩ = some (.int .i64 X2) ∧ w'.cell? ⟨g5, m * 3 + 2, none⟩ = some (.int .i64 Y2)))) (by kernel_rfl) (by (try dsimp only); exact ⟨⟨a0, a1, a2⟩, ⟨m0, m1, m2⟩, ⟨p0, p1, p2⟩⟩) (fun hHeld => ?_)
                  simp only [List.size_toArray, List.length_cons, List.length_nil, Nat.zero_add, Nat.reduceAdd]
                  refine held_take (i := 0) (v := ?_) rfl (by kernel_rfl) (by kernel_rfl) (by kernel_rfl) (fun _ _ _ h => h) (by rfl) ?_ (by assumption) ?_
                  rotate_left
                  · intro w hSw
                    (try dsimp only at hSw)
                    go_simp
                    try with_reducible rfl
                  try simp only [Act.put, List.setIfInBounds_toArray, List.set_cons_zero, List.set_cons_succ]
                  refine held_take (i := 1) (v := ?_) rfl (by kernel_rfl) (by kernel_rfl) (by kernel_rfl) (fun _ _ _ h => h) (by rfl) ?_ (by assumption) ?_
                  rotate_left
                  · intro w hSw
                    (try dsimp only at hSw)
                    go_simp
                    try with_reducible rfl
                  try simp only [Act.put, List.setIfInBounds_toArray, List.set_cons_zero, List.set_cons_succ]
                  refine held_take (i := 2) (v := ?_) rfl (by kernel_rfl) (by kernel_rfl) (by kernel_rfl) (fun _ _ _ h => h) (by rfl) ?_ (by assumption) ?_
                  rotate_left
                  · intro w hSw
                    (try dsimp only at hSw)
                    go_simp
                    try with_reducible rfl
                  try simp only [Act.put, List.setIfInBounds_toArray, List.set_cons_zero, List.set_cons_succ]
                  refine held_take (i := 3) (v := ?_) rfl (by kernel_rfl) (by kernel_rfl) (by kernel_rfl) (fun _ _ _ h => h) (by rfl) ?_ (by assumption) ?_
                  rotate_left
                  · intro w hSw
                    (try dsimp only at hSw)
                    go_simp
                    try with_reducible rfl
                  try simp only [Act.put, List.setIfInBounds_toArray, List.set_cons_zero, List.set_cons_succ]
                  refine held_take (i := 4) (v := ?_) rfl (by kernel_rfl) (by kernel_rfl) (by kernel_rfl) (fun _ _ _ h => h) (by rfl) ?_ (by assumption) ?_
                  rotate_left
                  · intro w hSw
                    (try dsimp only at hSw)
                    go_simp
                    try with_reducible rfl
                  try simp only [Act.put, List.setIfInBounds_toArray, List.set_cons_zero, List.set_cons_succ]
                  refine held_take (i := 5) (v := ?_) rfl (by kernel_rfl) (by kernel_rfl) (by kernel_rfl) (fun _ _ _ h => h) (by rfl) ?_ (by assumption) ?_
                  rotate_left
                  · intro w hSw
                    (try dsimp only at hSw)
                    go_simp
                    try with_reducible rfl
                  try simp only [Act.put, List.setIfInBounds_toArray, List.set_cons_zero, List.set_cons_succ]
                  refine held_take (i := 6) (v := ?_) rfl (by kernel_rfl) (by kernel_rfl) (by kernel_rfl) (fun _ _ _ h => h) (by rfl) ?_ (by assumption) ?_
                  rotate_left
                  · intro w hSw
                    (try dsimp only at hSw)
                    go_simp
                    try with_reducible rfl
                  try simp only [Act.put, List.setIfInBounds_toArray, List.set_cons_zero, List.set_cons_succ]
                  refine held_take (i := 7) (v := ?_) rfl (by kernel_rfl) (by kernel_rfl) (by kernel_rfl) (fun _ _ _ h => h) (by rfl) ?_ (by assumption) ?_
                  rotate_left
                  · intro w hSw
                    (try dsimp only at hSw)
                    go_simp
                    try with_reducible rfl
                  try simp only [Act.put, List.setIfInBounds_toArray, List.set_cons_zero, List.set_cons_succ]
                  refine held_take (i := 8) (v := ?_) rfl (by kernel_rfl) (by kernel_rfl) (by kernel_rfl) (fun _ _ _ h => h) (by rfl) ?_ (by assumption) ?_
                  rotate_left
                  · intro w hSw
                    (try dsimp only at hSw)
                    go_simp
                    try with_reducible rfl
                  try simp only [Act.put, List.setIfInBounds_toArray, List.set_cons_zero, List.set_cons_succ]
                  refine held_take (i := 9) (v := ?_) rfl (by kernel_rfl) (by kernel_rfl) (by kernel_rfl) (fun _ _ _ h => h) (by rfl) ?_ (by assumption) ?_
                  rotate_left
                  · intro w hSw
                    (try dsimp only at hSw)
                    go_simp
                    try with_reducible rfl
                  try simp only [Act.put, List.setIfInBounds_toArray, List.set_cons_zero, List.set_cons_succ]
                  refine held_take (i := 10) (v := ?_) rfl (by kernel_rfl) (by kernel_rfl) (by kernel_rfl) (fun _ _ _ h => h) (by rfl) ?_ (by assumption) ?_
                  rotate_left
                  · intro w hSw
                    (try dsimp only at hSw)
                    go_simp
                    try with_reducible rfl
                  try simp only [Act.put, List.setIfInBounds_toArray, List.set_cons_zero, List.set_cons_succ]
                  refine held_take (i := 11) (v := ?_) rfl (by kernel_rfl) (by kernel_rfl) (by kernel_rfl) (fun _ _ _ h => h) (by rfl) ?_ (by assumption) ?_
                  rotate_left
                  · intro w hSw
                    (try dsimp only at hSw)
                    go_simp
                    try with_reducible rfl
                  try simp only [Act.put, List.setIfInBounds_toArray, List.set_cons_zero, List.set_cons_succ]
                  refine held_take (i := 12) (v := ?_) rfl (by kernel_rfl) (by kernel_rfl) (by kernel_rfl) (fun _ _ _ h => h) (by rfl) ?_ (by assumption) ?_
                  rotate_left
                  · intro w hSw
                    (try dsimp only at hSw)
                    go_simp
                    try with_reducible rfl
                  try simp only [Act.put, List.setIfInBounds_toArray, List.set_cons_zero, List.set_cons_succ]
                  refine held_take (i := 13) (v := ?_) rfl (by kernel_rfl) (by kernel_rfl) (by kernel_rfl) (fun _ _ _ h => h) (by rfl) ?_ (by assumption) ?_
                  rotate_left
                  · intro w hSw
                    (try dsimp only at hSw)
                    go_simp
                    try with_reducible rfl
                  try simp only [Act.put, List.setIfInBounds_toArray, List.set_cons_zero, List.set_cons_succ]
                  refine held_take (i := 14) (v := ?_) rfl (by kernel_rfl) (by kernel_rfl) (by kernel_rfl) (fun _ _ _ h => h) (by rfl) ?_ (by assumption) ?_
                  rotate_left
                  · intro w hSw
                    (try dsimp only at hSw)
                    go_simp
                    try with_reducible rfl
                  try simp only [Act.put, List.setIfInBounds_toArray, List.set_cons_zero, List.set_cons_succ]
                  refine held_take (i := 15) (v := ?_) rfl (by kernel_rfl) (by kernel_rfl) (by kernel_rfl) (fun _ _ _ h => h) (by rfl) ?_ (by assumption) ?_
                  rotate_left
                  · intro w hSw
                    (try dsimp only at hSw)
                    go_simp
                    try with_reducible rfl
                  try simp only [Act.put, List.setIfInBounds_toArray, List.set_cons_zero, List.set_cons_succ]
                  refine held_take (i := 16) (v := ?_) rfl (by kernel_rfl) (by kernel_rfl) (by kernel_rfl) (fun _ _ _ h => h) (by rfl) ?_ (by assumption) ?_
                  rotate_left
                  · intro w hSw
                    (try dsimp only at hSw)
                    go_simp
                    try with_reducible rfl
                  try simp only [Act.put, List.setIfInBounds_toArray, List.set_cons_zero, List.set_cons_succ]
                  refine held_take (i := 17) (v := ?_) rfl (by kernel_rfl) (by kernel_rfl) (by kernel_rfl) (fun _ _ _ h => h) (by rfl) ?_ (by assumption) ?_
                  rotate_left
                  · intro w hSw
                    (try dsimp only at hSw)
                    go_simp
                    try with_reducible rfl
                  try simp only [Act.put, List.setIfInBounds_toArray, List.set_cons_zero, List.set_cons_succ]
                  refine held_take (i := 18) (v := ?_) rfl (by kernel_rfl) (by kernel_rfl) (by kernel_rfl) (fun _ _ _ h => h) (by rfl) ?_ (by assumption) ?_
                  rotate_left
                  · intro w hSw
                    (try dsimp only at hSw)
                    go_simp
                    try with_reducible rfl
                  try simp only [Act.put, List.setIfInBounds_toArray, List.set_cons_zero, List.set_cons_succ]
                  refine held_take (i := 19) (v := ?_) rfl (by kernel_rfl) (by kernel_rfl) (by kernel_rfl) (fun _ _ _ h => h) (by rfl) ?_ (by assumption) ?_
                  rotate_left
                  · intro w hSw
                    (try dsimp only at hSw)
                    go_simp
                    try with_reducible rfl
                  try simp only [Act.put, List.setIfInBounds_toArray, List.set_cons_zero, List.set_cons_succ]
                  refine held_call (i := 20) (by kernel_rfl) rfl (fun K hK => ?_)
                  go_simp
                  refine (over_any _ _ _ _ _ _ _).mono ?_; rintro e w8 ⟨rfl, hb8⟩; have hw := bthen2 hb8 (by first | exact hw | exact Below.drew hw | exact bdraws hw _); have hw5 := bthen2 hb8 (by first | exact hw5 | exact Below.drew hw5 | exact bdraws hw5 _); have HA := Lib.hid (blk_keep2 hb8 HA.out); obtain ⟨⟨a0, a1, a2⟩, _⟩ := blk_cells3 HA.out; obtain ⟨m0, m1, m2⟩ := HCK.out _ hw5; obtain ⟨p0, p1, p2⟩ := HCM.out _ hw5
                  refine hK.out _ _ (by (try dsimp only); exact ⟨⟨a0, a1, a2⟩, ⟨m0, m1, m2⟩, ⟨p0, p1, p2⟩⟩) (fun hHeld => ?_)
                  clear hK K
                  try simp only [Act.put, List.setIfInBounds_toArray, List.set_cons_zero, List.set_cons_succ]
                  refine held_take (i := 21) (v := ?_) rfl (by kernel_rfl) (by kernel_rfl) (by kernel_rfl) (fun _ _ _ h => h) (by rfl) ?_ (by assumption) ?_
                  rotate_left
                  · intro w hSw
                    (try dsimp only at hSw)
                    go_simp
                    try with_reducible rfl
                  try simp only [Act.put, List.setIfInBounds_toArray, List.set_cons_zero, List.set_cons_succ]
                  refine held_take (i := 22) (v := ?_) rfl (by kernel_rfl) (by kernel_rfl) (by kernel_rfl) (fun _ _ _ h => h) (by rfl) ?_ (by assumption) ?_
                  rotate_left
                  · intro w hSw
                    (try dsimp only at hSw)
                    go_simp
                    try with_reducible rfl
                  try simp only [Act.put, List.setIfInBounds_toArray, List.set_cons_zero, List.set_cons_succ]
                  refine held_take (i := 23) (v := ?_) rfl (by kernel_rfl) (by kernel_rfl) (by kernel_rfl) (fun _ _ _ h => h) (by rfl) ?_ (by assumption) ?_
                  rotate_left
                  · intro w hSw
                    (try dsimp only at hSw)
                    go_simp
                    try with_reducible rfl
                  try simp only [Act.put, List.setIfInBounds_toArray, List.set_cons_zero, List.set_cons_succ]
                  refine wpAnyH_done (by kernel_rfl) ?_ _
                  clear p0 p1 p2 q13 q14 q15 q16
                  obtain ⟨wb, rfl⟩ : ∃ wb : World, w8 = wb.drewN 0 := ⟨w8, rfl⟩
                  go_wp2_with fail
                  have HZ : Hid (w.heap.size < wb.heap.size) := Lib.hid (by have := blk_lt HA.out; exact this)
                  have HZ5 : Hid (w5.heap.size ≤ wb.heap.size) := Lib.hid (by have := hw5.size; exact this)
                  refine wp_region_held_drew (S := (fun w' => (w'.cell? ⟨w.heap.size, 0, none⟩ = some (.int .i64 (zn : Int)) ∧ w'.cell? ⟨w.heap.size, 1, none⟩ = some (.int .i64 x1) ∧ w'.cell? ⟨w.heap.size, 2, none⟩ = some (.int .i64 y1)) ∧ (w'.cell? ⟨g5, k * 3, none⟩ = some (.int .i64 (k : Int)) ∧ w'.cell? ⟨g5, k * 3 + 1, none⟩ = some (.int .i64 X) ∧ w'.cell? ⟨g5, k * 3 + 2, none⟩ = some (.int .i64 Y)))) (by kernel_rfl) (by (try dsimp only); exact ⟨⟨a0, a1, a2⟩, m0, m1, m2⟩) (fun hHeld => ?_)
                  simp only [List.size_toArray, List.length_cons, List.length_nil, Nat.zero_add, Nat.reduceAdd]
                  refine held_take (i := 0) (v := ?_) rfl (by kernel_rfl) (by kernel_rfl) (by kernel_rfl) (fun _ _ _ h => h) (by rfl) ?_ (by assumption) ?_
                  rotate_left
                  · intro w hSw
                    (try dsimp only at hSw)
                    go_simp
                    try with_reducible rfl
                  try simp only [Act.put, List.setIfInBounds_toArray, List.set_cons_zero, List.set_cons_succ]
                  refine held_take (i := 1) (v := ?_) rfl (by kernel_rfl) (by kernel_rfl) (by kernel_rfl) (fun _ _ _ h => h) (by rfl) ?_ (by assumption) ?_
                  rotate_left
                  · intro w hSw
                    (try dsimp only at hSw)
                    go_simp
                    try with_reducible rfl
                  try simp only [Act.put, List.setIfInBounds_toArray, List.set_cons_zero, List.set_cons_succ]
                  refine held_take (i := 2) (v := ?_) rfl (by kernel_rfl) (by kernel_rfl) (by kernel_rfl) (fun _ _ _ h => h) (by rfl) ?_ (by assumption) ?_
                  rotate_left
                  · intro w hSw
                    (try dsimp only at hSw)
                    go_simp
                    try with_reducible rfl
                  try simp only [Act.put, List.setIfInBounds_toArray, List.set_cons_zero, List.set_cons_succ]
                  refine held_take (i := 3) (v := ?_) rfl (by kernel_rfl) (by kernel_rfl) (by kernel_rfl) (fun _ _ _ h => h) (by rfl) ?_ (by assumption) ?_
                  rotate_left
                  · intro w hSw
                    (try dsimp only at hSw)
                    go_simp
                    try with_reducible rfl
                  try simp only [Act.put, List.setIfInBounds_toArray, List.set_cons_zero, List.set_cons_succ]
                  refine held_take (i := 4) (v := ?_) rfl (by kernel_rfl) (by kernel_rfl) (by kernel_rfl) (fun _ _ _ h => h) (by rfl) ?_ (by assumption) ?_
                  rotate_left
                  · intro w hSw
                    (try dsimp only at hSw)
                    go_simp
                    try with_reducible rfl
                  try simp only [Act.put, List.setIfInBounds_toArray, List.set_cons_zero, List.set_cons_succ]
                  refine held_two (i := 5) (j := 10) (by kernel_rfl) rfl rfl (fun K hK => ?_) (fun K hK => ?_)
                  · go_simp

                    refine hK.out _ _ (by (try dsimp only); exact six_alloc hHeld _) (fun hHeld => ?_)
                    clear hK K
                    try simp only [Act.put, List.setIfInBounds_toArray, List.set_cons_zero, List.set_cons_succ]
                    refine held_two (i := 6) (j := 10) (by kernel_rfl) rfl rfl (fun K hK => ?_) (fun K hK => ?_)
                    · go_simp
                      refine (com_one (by exact HCOM.out) (by first | exact hw | exact Below.drew hw | exact bdraws hw 1) (by first | exact hw5 | exact Below.drew hw5 | exact bdraws hw5 1) (by exact HA.out)).mono ?_; rintro e w9 ⟨rfl, hw, hw5, hA8⟩; have HA := Lib.hid hA8; obtain ⟨⟨a0, a1, a2⟩, _⟩ := blk_cells3 HA.out; obtain ⟨m0, m1, m2⟩ := HCK.out _ hw5
                      refine hK.out _ _ (by (try dsimp only); first | (with_reducible exact ⟨⟨a0, a1, a2⟩, m0, m1, m2⟩) | exact six_alloc hHeld _) (fun hHeld => ?_)
                      clear hK K
                      try simp only [Act.put, List.setIfInBounds_toArray, List.set_cons_zero, List.set_cons_succ]
                      refine held_take (i := 7) (v := ?_) rfl (by kernel_rfl) (by kernel_rfl) (by kernel_rfl) (fun _ _ _ h => h) (by rfl) ?_ (by assumption) ?_
                      rotate_left
                      · intro w hSw
                        (try dsimp only at hSw)
                        go_simp
                        try with_reducible rfl
                      try simp only [Act.put, List.setIfInBounds_toArray, List.set_cons_zero, List.set_cons_succ]
                      refine held_take (i := 8) (v := ?_) rfl (by kernel_rfl) (by kernel_rfl) (by kernel_rfl) (fun _ _ _ h => h) (by rfl) ?_ (by assumption) ?_
                      rotate_left
                      · intro w hSw
                        (try dsimp only at hSw)
                        go_simp
                        try with_reducible rfl
                      try simp only [Act.put, List.setIfInBounds_toArray, List.set_cons_zero, List.set_cons_succ]
                      refine held_take (i := 9) (v := ?_) rfl (by kernel_rfl) (by kernel_rfl) (by kernel_rfl) (fun _ _ _ h => h) (by rfl) ?_ (by assumption) ?_
                      rotate_left
                      · intro w hSw
                        (try dsimp only at hSw)
                        go_simp
                        try with_reducible rfl
                      try simp only [Act.put, List.setIfInBounds_toArray, List.set_cons_zero, List.set_cons_succ]
                      refine held_call (i := 10) (by kernel_rfl) rfl (fun K hK => ?_)
                      go_simp

                      refine hK.out _ _ (by (try dsimp only); exact six_alloc hHeld _) (fun hHeld => ?_)
                      clear hK K
                      try simp only [Act.put, List.setIfInBounds_toArray, List.set_cons_zero, List.set_cons_succ]
                      refine held_call (i := 11) (by kernel_rfl) rfl (fun K hK => ?_)
                      go_simp

                      refine hK.out _ _ (by (try dsimp only); exact six_alloc ⟨⟨a0, a1, a2⟩, m0, m1, m2⟩ _) (fun hHeld => ?_)
                      clear hK K
                      try simp only [Act.put, List.setIfInBounds_toArray, List.set_cons_zero, List.set_cons_succ]
                      refine held_take (i := 12) (v := ?_) rfl (by kernel_rfl) (by kernel_rfl) (by kernel_rfl) (fun _ _ _ h => h) (by rfl) ?_ (by assumption) ?_
                      rotate_left
                      · intro w hSw
                        (try dsimp only at hSw)
                        go_simp
                        try with_reducible rfl
                      try simp only [Act.put, List.setIfInBounds_toArray, List.set_cons_zero, List.set_cons_succ]
                      refine wpAnyH_done (by kernel_rfl) ?_ _
                      go_wp2_with fail
                      go_quiet (fail)
                      go_wp2_with fail
                      exact ⟨⟨k + 1, by omega, by go_num, by first | exact HA | exact Lib.hid (by repeat (first | exact HA.out | refine blk_alloc ?_ _)), by first | exact hw | exact bdraws hw _ | exact bdraws (bl_al hw _) _ | exact bl_al hw _, by first | exact hw5 | exact bdraws hw5 _ | exact bdraws (bl_al hw5 _) _ | exact bl_al hw5 _⟩, by simp [intOf]; omega⟩
                    · go_simp

                      refine hK.out _ _ (by (try dsimp only); first | (with_reducible exact ⟨⟨a0, a1, a2⟩, m0, m1, m2⟩) | exact six_alloc hHeld _) (fun hHeld => ?_)
                      clear hK K
                      try simp only [Act.put, List.setIfInBounds_toArray, List.set_cons_zero, List.set_cons_succ]
                      refine held_call (i := 6) (by kernel_rfl) rfl (fun K hK => ?_)
                      go_simp
                      refine (com_two (by exact HCOM.out) (by first | exact hw | exact Below.drew hw | exact bdraws hw 1) (by first | exact hw5 | exact Below.drew hw5 | exact bdraws hw5 1) (by exact HA.out)).mono ?_; rintro e w9 ⟨rfl, hw, hw5, hA8, hD8⟩; have HD := hD8; (try simp only [World.heap_drewN] at HD); obtain ⟨⟨d0, d1, d2⟩, g0, g1, g2⟩ := blk_cells3 HD; have HA := Lib.hid hA8; obtain ⟨⟨a0, a1, a2⟩, _⟩ := blk_cells3 HA.out; obtain ⟨m0, m1, m2⟩ := HCK.out _ hw5
                      refine hK.out _ _ (by (try dsimp only); exact ⟨⟨a0, a1, a2⟩, m0, m1, m2⟩) (fun hHeld => ?_)
                      clear hK K
                      try simp only [Act.put, List.setIfInBounds_toArray, List.set_cons_zero, List.set_cons_succ]
                      refine held_take (i := 7) (v := ?_) rfl (by kernel_rfl) (by kernel_rfl) (by kernel_rfl) (fun _ _ _ h => h) (by rfl) ?_ (by assumption) ?_
                      rotate_left
                      · intro w hSw
                        (try dsimp only at hSw)
                        go_simp
                        try with_reducible rfl
                      try simp only [Act.put, List.setIfInBounds_toArray, List.set_cons_zero, List.set_cons_succ]
                      refine held_take (i := 8) (v := ?_) rfl (by kernel_rfl) (by kernel_rfl) (by kernel_rfl) (fun _ _ _ h => h) (by rfl) ?_ (by assumption) ?_
                      rotate_left
                      · intro w hSw
                        (try dsimp only at hSw)
                        go_simp
                        try with_reducible rfl
                      try simp only [Act.put, List.setIfInBounds_toArray, List.set_cons_zero, List.set_cons_succ]
                      refine held_take (i := 9) (v := ?_) rfl (by kernel_rfl) (by kernel_rfl) (by kernel_rfl) (fun _ _ _ h => h) (by rfl) ?_ (by assumption) ?_
                      rotate_left
                      · intro w hSw
                        (try dsimp only at hSw)
                        go_simp
                        try with_reducible rfl
                      try simp only [Act.put, List.setIfInBounds_toArray, List.set_cons_zero, List.set_cons_succ]
                      refine held_call (i := 11) (by kernel_rfl) rfl (fun K hK => ?_)
                      go_simp
                      have hw := st3 (d := wb.heap.size + 1) (v0 := .int .i64 (k : Int)) (v1 := .int .i64 X) (v2 := .int .i64 Y) hw (by have := HZ.out; omega); have hw5 := st3 (d := wb.heap.size + 1) (v0 := .int .i64 (k : Int)) (v1 := .int .i64 X) (v2 := .int .i64 Y) hw5 (by have := HZ5.out; omega); have HA := Lib.hid (st3b (d := wb.heap.size + 1) (v0 := .int .i64 (k : Int)) (v1 := .int .i64 X) (v2 := .int .i64 Y) HA.out (by have := HZ.out; omega)); obtain ⟨⟨a0, a1, a2⟩, _⟩ := blk_cells3 HA.out; obtain ⟨m0, m1, m2⟩ := HCK.out _ hw5
                      refine hK.out _ _ (by (try dsimp only); exact ⟨⟨a0, a1, a2⟩, m0, m1, m2⟩) (fun hHeld => ?_)
                      clear hK K
                      try simp only [Act.put, List.setIfInBounds_toArray, List.set_cons_zero, List.set_cons_succ]
                      refine held_take (i := 12) (v := ?_) rfl (by kernel_rfl) (by kernel_rfl) (by kernel_rfl) (fun _ _ _ h => h) (by rfl) ?_ (by assumption) ?_
                      rotate_left
                      · intro w hSw
                        (try dsimp only at hSw)
                        go_simp
                        try with_reducible rfl
                      try simp only [Act.put, List.setIfInBounds_toArray, List.set_cons_zero, List.set_cons_succ]
                      refine wpAnyH_done (by kernel_rfl) ?_ _
                      go_wp2_with fail
                      go_quiet (fail)
                      go_wp2_with fail
                      exact ⟨⟨k + 1, by omega, by go_num, by first | exact HA | exact Lib.hid (by repeat (first | exact HA.out | refine blk_alloc ?_ _)), by first | exact hw | exact bdraws hw _ | exact bdraws (bl_al hw _) _ | exact bl_al hw _, by first | exact hw5 | exact bdraws hw5 _ | exact bdraws (bl_al hw5 _) _ | exact bl_al hw5 _⟩, by simp [intOf]; omega⟩
                  · go_simp

                    refine hK.out _ _ (by (try dsimp only); exact six_alloc hHeld _) (fun hHeld => ?_)
                    clear hK K
                    try simp only [Act.put, List.setIfInBounds_toArray, List.set_cons_zero, List.set_cons_succ]
                    refine held_call (i := 5) (by kernel_rfl) rfl (fun K hK => ?_)
                    go_simp

                    refine hK.out _ _ (by (try dsimp only); exact six_alloc hHeld _) (fun hHeld => ?_)
                    clear hK K
                    try simp only [Act.put, List.setIfInBounds_toArray, List.set_cons_zero, List.set_cons_succ]
                    refine held_call (i := 6) (by kernel_rfl) rfl (fun K hK => ?_)
                    go_simp
                    refine (com_tri (by exact HCOM.out) (by first | exact hw | exact Below.drew hw | exact bdraws hw 1) (by first | exact hw5 | exact Below.drew hw5 | exact bdraws hw5 1) (by exact HA.out)).mono ?_; rintro e w9 ⟨rfl, hw, hw5, hA8, hD8⟩; have HD := hD8; (try simp only [World.heap_drewN] at HD); obtain ⟨⟨d0, d1, d2⟩, g0, g1, g2⟩ := blk_cells3 HD; have HA := Lib.hid hA8; obtain ⟨⟨a0, a1, a2⟩, _⟩ := blk_cells3 HA.out; obtain ⟨m0, m1, m2⟩ := HCK.out _ hw5
                    refine hK.out _ _ (by (try dsimp only); exact ⟨⟨a0, a1, a2⟩, m0, m1, m2⟩) (fun hHeld => ?_)
                    clear hK K
                    try simp only [Act.put, List.setIfInBounds_toArray, List.set_cons_zero, List.set_cons_succ]
                    refine held_take (i := 7) (v := ?_) rfl (by kernel_rfl) (by kernel_rfl) (by kernel_rfl) (fun _ _ _ h => h) (by rfl) ?_ (by assumption) ?_
                    rotate_left
                    · intro w hSw
                      (try dsimp only at hSw)
                      go_simp
                      try with_reducible rfl
                    try simp only [Act.put, List.setIfInBounds_toArray, List.set_cons_zero, List.set_cons_succ]
                    refine held_take (i := 8) (v := ?_) rfl (by kernel_rfl) (by kernel_rfl) (by kernel_rfl) (fun _ _ _ h => h) (by rfl) ?_ (by assumption) ?_
                    rotate_left
                    · intro w hSw
                      (try dsimp only at hSw)
                      go_simp
                      try with_reducible rfl
                    try simp only [Act.put, List.setIfInBounds_toArray, List.set_cons_zero, List.set_cons_succ]
                    refine held_take (i := 9) (v := ?_) rfl (by kernel_rfl) (by kernel_rfl) (by kernel_rfl) (fun _ _ _ h => h) (by rfl) ?_ (by assumption) ?_
                    rotate_left
                    · intro w hSw
                      (try dsimp only at hSw)
                      go_simp
                      try with_reducible rfl
                    try simp only [Act.put, List.setIfInBounds_toArray, List.set_cons_zero, List.set_cons_succ]
                    refine held_call (i := 11) (by kernel_rfl) rfl (fun K hK => ?_)
                    go_simp
                    have hw := st3 (d := wb.heap.size) (v0 := .int .i64 (k : Int)) (v1 := .int .i64 X) (v2 := .int .i64 Y) hw (by have := HZ.out; omega); have hw5 := st3 (d := wb.heap.size) (v0 := .int .i64 (k : Int)) (v1 := .int .i64 X) (v2 := .int .i64 Y) hw5 (by have := HZ5.out; omega); have HA := Lib.hid (st3b (d := wb.heap.size) (v0 := .int .i64 (k : Int)) (v1 := .int .i64 X) (v2 := .int .i64 Y) HA.out (by have := HZ.out; omega)); obtain ⟨⟨a0, a1, a2⟩, _⟩ := blk_cells3 HA.out; obtain ⟨m0, m1, m2⟩ := HCK.out _ hw5
                    refine hK.out _ _ (by (try dsimp only); exact ⟨⟨a0, a1, a2⟩, m0, m1, m2⟩) (fun hHeld => ?_)
                    clear hK K
                    try simp only [Act.put, List.setIfInBounds_toArray, List.set_cons_zero, List.set_cons_succ]
                    refine held_take (i := 12) (v := ?_) rfl (by kernel_rfl) (by kernel_rfl) (by kernel_rfl) (fun _ _ _ h => h) (by rfl) ?_ (by assumption) ?_
                    rotate_left
                    · intro w hSw
                      (try dsimp only at hSw)
                      go_simp
                      try with_reducible rfl
                    try simp only [Act.put, List.setIfInBounds_toArray, List.set_cons_zero, List.set_cons_succ]
                    refine wpAnyH_done (by kernel_rfl) ?_ _
                    go_wp2_with fail
                    go_quiet (fail)
                    go_wp2_with fail
                    exact ⟨⟨k + 1, by omega, by go_num, by first | exact HA | exact Lib.hid (by repeat (first | exact HA.out | refine blk_alloc ?_ _)), by first | exact hw | exact bdraws hw _ | exact bdraws (bl_al hw _) _ | exact bl_al hw _, by first | exact hw5 | exact bdraws hw5 _ | exact bdraws (bl_al hw5 _) _ | exact bl_al hw5 _⟩, by simp [intOf]; omega⟩
              · obtain rfl : k = zn + 1 := by omega
                have b2 : ¬ ((zn + 1 : Nat) : Int) < (zn : Int) + 1 := by omega
                go_wp2_with fail
                refine (id_any _ _ _ _).mono ?_; rintro e w6 ⟨he, hb⟩
                rw [HPE.out] at he
                subst he
                replace HA := blk_on HA hb
                replace hw := bthen2 hb hw
                replace hw5 := bthen2 hb hw5
                clear hb a0 a1 a2
                obtain ⟨⟨a0, a1, a2⟩, _⟩ := blk_cells3 HA.out
                have hcz : Hid (∀ w', Below w5.heap.size w5 w' → w'.cell? ⟨g5, zn * 3, none⟩ = some (.int .i64 (zn : Int)) ∧ w'.cell? ⟨g5, zn * 3 + 1, none⟩ = some (.int .i64 x1) ∧ w'.cell? ⟨g5, zn * 3 + 2, none⟩ = some (.int .i64 y1)) := Lib.hid (by have h := hcell.out zn (Nat.le_refl _); rw [HLAST.out] at h; exact h)
                obtain ⟨m0, m1, m2⟩ := hcz.out _ hw5
                have q7 : wrap64 ((zn : Int) + 1) = (zn : Int) + 1 := i64w (by omega) (by omega)
                have q8 : IntKind.i64.wrap ((zn : Int) + 1) = (zn : Int) + 1 := by rw [IntKind.wrap_i64]; omega
                go_wp2_with fail
                go_region_held3 (fun w' => (w'.cell? ⟨w.heap.size, 0, none⟩ = some (.int .i64 (zn : Int)) ∧ w'.cell? ⟨w.heap.size, 1, none⟩ = some (.int .i64 x1) ∧ w'.cell? ⟨w.heap.size, 2, none⟩ = some (.int .i64 y1)) ∧ (w'.cell? ⟨g5, zn * 3, none⟩ = some (.int .i64 (zn : Int)) ∧ w'.cell? ⟨g5, zn * 3 + 1, none⟩ = some (.int .i64 x1) ∧ w'.cell? ⟨g5, zn * 3 + 2, none⟩ = some (.int .i64 y1))) (exact ⟨⟨a0, a1, a2⟩, ⟨m0, m1, m2⟩⟩) ((go_at_call 8; refine (awake42 _).mono ?_; rintro e w9 ⟨rfl, hb9⟩; have hw := bthen2 hb9 (by first | exact hw | exact Below.drew hw | exact bdraws hw _); have hw5 := bthen2 hb9 (by first | exact hw5 | exact Below.drew hw5 | exact bdraws hw5 _); have HA := Lib.hid (blk_keep2 hb9 HA.out); obtain ⟨⟨a0, a1, a2⟩, _⟩ := blk_cells3 HA.out; obtain ⟨m0, m1, m2⟩ := hcz.out _ hw5))
                all_goals
                  go_wp2_with fail
                  go_ret
                  exact ⟨rfl, by first | exact hw | exact Below.drew hw | exact bdraws hw _⟩
          · have hpe : (Cv.pe z1 x1 y1 == 0) = false := by rcases Cv.pe_not h with q | q <;> rw [q] <;> rfl
            have hway : Qw.way z1 x1 y1 = [] := by unfold Qw.way; rw [if_neg (by simp [h])]
            rw [hway] at hT5
            obtain ⟨A5, c5, rfl, _⟩ := hT5.reads
            simp only [List.length_nil]
            clear hway h hT5
            go_wp2_with fail
            go_loopw [10] (fun ci wr => ci = .int .i64 0 ∧ Hid (wr.heap[w.heap.size]? = some (.cells #[.int .i64 z1, .int .i64 x1, .int .i64 y1] 23 (0, 0))) ∧ Below w.heap.size w wr) (fun ci _ => 4 - (intOf ci).toNat)
            case atStart => exact ⟨rfl, HA, hw⟩
            case round =>
              clear HA hw
              obtain ⟨rfl, HA, hw⟩ := hrel
              obtain ⟨⟨a0, a1, a2⟩, _⟩ := blk_cells3 HA.out
              go_wp2_with fail
              refine (id_any _ _ _ _).mono ?_; rintro e w6 ⟨rfl, hb⟩
              replace HA := blk_on HA hb
              replace hw := bthen2 hb hw
              clear hb a0 a1 a2
              obtain ⟨⟨a0, a1, a2⟩, _⟩ := blk_cells3 HA.out
              go_wp2_with fail
              refine wp_region_held_drew (S := (fun _ => True)) (by kernel_rfl) (by (try dsimp only); try exact trivial) (fun hHeld => ?_)
              simp only [List.size_toArray, List.length_cons, List.length_nil, Nat.zero_add, Nat.reduceAdd]
              refine held_take (i := 0) (v := ?_) rfl (by kernel_rfl) (by kernel_rfl) (by kernel_rfl) (fun _ _ _ h => h) (by rfl) ?_ (by assumption) ?_
              rotate_left
              · intro w hSw
                (try dsimp only at hSw)
                go_simp
                try with_reducible rfl
              try simp only [Act.put, List.setIfInBounds_toArray, List.set_cons_zero, List.set_cons_succ]
              refine held_take (i := 1) (v := ?_) rfl (by kernel_rfl) (by kernel_rfl) (by kernel_rfl) (fun _ _ _ h => h) (by rfl) ?_ (by assumption) ?_
              rotate_left
              · intro w hSw
                (try dsimp only at hSw)
                go_simp
                try with_reducible rfl
              try simp only [Act.put, List.setIfInBounds_toArray, List.set_cons_zero, List.set_cons_succ]
              refine held_take (i := 2) (v := ?_) rfl (by kernel_rfl) (by kernel_rfl) (by kernel_rfl) (fun _ _ _ h => h) (by rfl) ?_ (by assumption) ?_
              rotate_left
              · intro w hSw
                (try dsimp only at hSw)
                go_simp
                try with_reducible rfl
              try simp only [Act.put, List.setIfInBounds_toArray, List.set_cons_zero, List.set_cons_succ]
              refine held_take (i := 3) (v := ?_) rfl (by kernel_rfl) (by kernel_rfl) (by kernel_rfl) (fun _ _ _ h => h) (by rfl) ?_ (by assumption) ?_
              rotate_left
              · intro w hSw
                (try dsimp only at hSw)
                go_simp
                try with_reducible rfl
              try simp only [Act.put, List.setIfInBounds_toArray, List.set_cons_zero, List.set_cons_succ]
              refine held_take (i := 4) (v := ?_) rfl (by kernel_rfl) (by kernel_rfl) (by kernel_rfl) (fun _ _ _ h => h) (by rfl) ?_ (by assumption) ?_
              rotate_left
              · intro w hSw
                (try dsimp only at hSw)
                go_simp
                try with_reducible rfl
              try simp only [Act.put, List.setIfInBounds_toArray, List.set_cons_zero, List.set_cons_succ]
              refine held_take (i := 5) (v := ?_) rfl (by kernel_rfl) (by kernel_rfl) (by kernel_rfl) (fun _ _ _ h => h) (by rfl) ?_ (by assumption) ?_
              rotate_left
              · intro w hSw
                (try dsimp only at hSw)
                go_simp
                try with_reducible rfl
              try simp only [Act.put, List.setIfInBounds_toArray, List.set_cons_zero, List.set_cons_succ]
              refine held_take (i := 6) (v := ?_) rfl (by kernel_rfl) (by kernel_rfl) (by kernel_rfl) (fun _ _ _ h => h) (by rfl) ?_ (by assumption) ?_
              rotate_left
              · intro w hSw
                (try dsimp only at hSw)
                go_simp
                try with_reducible rfl
              try simp only [Act.put, List.setIfInBounds_toArray, List.set_cons_zero, List.set_cons_succ]
              refine held_take (i := 7) (v := ?_) rfl (by kernel_rfl) (by kernel_rfl) (by kernel_rfl) (fun _ _ _ h => h) (by rfl) ?_ (by assumption) ?_
              rotate_left
              · intro w hSw
                (try dsimp only at hSw)
                go_simp
                try with_reducible rfl
              try simp only [Act.put, List.setIfInBounds_toArray, List.set_cons_zero, List.set_cons_succ]
              refine held_take (i := 8) (v := ?_) rfl (by kernel_rfl) (by kernel_rfl) (by kernel_rfl) (fun _ _ _ h => h) (by rfl) ?_ (by assumption) ?_
              rotate_left
              · intro w hSw
                (try dsimp only at hSw)
                go_simp
                try with_reducible rfl
              try simp only [Act.put, List.setIfInBounds_toArray, List.set_cons_zero, List.set_cons_succ]
              refine held_take (i := 9) (v := ?_) rfl (by kernel_rfl) (by kernel_rfl) (by kernel_rfl) (fun _ _ _ h => h) (by rfl) ?_ (by assumption) ?_
              rotate_left
              · intro w hSw
                (try dsimp only at hSw)
                go_simp
                try with_reducible rfl
              try simp only [Act.put, List.setIfInBounds_toArray, List.set_cons_zero, List.set_cons_succ]
              refine held_take (i := 10) (v := ?_) rfl (by kernel_rfl) (by kernel_rfl) (by kernel_rfl) (fun _ _ _ h => h) (by rfl) ?_ (by assumption) ?_
              rotate_left
              · intro w hSw
                (try dsimp only at hSw)
                go_simp
                try with_reducible rfl
              try simp only [Act.put, List.setIfInBounds_toArray, List.set_cons_zero, List.set_cons_succ]
              refine held_skip (i := 11) rfl (by kernel_rfl) (by kernel_rfl) (by kernel_rfl) (fun _ _ _ h => h) (by rfl) (by assumption) ?_
              try simp only [Act.put, List.setIfInBounds_toArray, List.set_cons_zero, List.set_cons_succ]
              refine held_skip (i := 12) rfl (by kernel_rfl) (by kernel_rfl) (by kernel_rfl) (fun _ _ _ h => h) (by rfl) (by assumption) ?_
              try simp only [Act.put, List.setIfInBounds_toArray, List.set_cons_zero, List.set_cons_succ]
              refine held_skip (i := 13) rfl (by kernel_rfl) (by kernel_rfl) (by kernel_rfl) (fun _ _ _ h => h) (by rfl) (by assumption) ?_
              try simp only [Act.put, List.setIfInBounds_toArray, List.set_cons_zero, List.set_cons_succ]
              refine held_skip (i := 14) rfl (by kernel_rfl) (by kernel_rfl) (by kernel_rfl) (fun _ _ _ h => h) (by rfl) (by assumption) ?_
              try simp only [Act.put, List.setIfInBounds_toArray, List.set_cons_zero, List.set_cons_succ]
              refine held_skip (i := 15) rfl (by kernel_rfl) (by kernel_rfl) (by kernel_rfl) (fun _ _ _ h => h) (by rfl) (by assumption) ?_
              try simp only [Act.put, List.setIfInBounds_toArray, List.set_cons_zero, List.set_cons_succ]
              refine held_skip (i := 16) rfl (by kernel_rfl) (by kernel_rfl) (by kernel_rfl) (fun _ _ _ h => h) (by rfl) (by assumption) ?_
              try simp only [Act.put, List.setIfInBounds_toArray, List.set_cons_zero, List.set_cons_succ]
              refine held_skip (i := 17) rfl (by kernel_rfl) (by kernel_rfl) (by kernel_rfl) (fun _ _ _ h => h) (by rfl) (by assumption) ?_
              try simp only [Act.put, List.setIfInBounds_toArray, List.set_cons_zero, List.set_cons_succ]
              refine held_skip (i := 18) rfl (by kernel_rfl) (by kernel_rfl) (by kernel_rfl) (fun _ _ _ h => h) (by rfl) (by assumption) ?_
              try simp only [Act.put, List.setIfInBounds_toArray, List.set_cons_zero, List.set_cons_succ]
              refine held_skip (i := 19) rfl (by kernel_rfl) (by kernel_rfl) (by kernel_rfl) (fun _ _ _ h => h) (by rfl) (by assumption) ?_
              try simp only [Act.put, List.setIfInBounds_toArray, List.set_cons_zero, List.set_cons_succ]
              refine held_skip (i := 20) rfl (by kernel_rfl) (by kernel_rfl) (by kernel_rfl) (fun _ _ _ h => h) (by rfl) (by assumption) ?_
              try simp only [Act.put, List.setIfInBounds_toArray, List.set_cons_zero, List.set_cons_succ]
              refine held_skip (i := 21) rfl (by kernel_rfl) (by kernel_rfl) (by kernel_rfl) (fun _ _ _ h => h) (by rfl) (by assumption) ?_
              try simp only [Act.put, List.setIfInBounds_toArray, List.set_cons_zero, List.set_cons_succ]
              refine held_skip (i := 22) rfl (by kernel_rfl) (by kernel_rfl) (by kernel_rfl) (fun _ _ _ h => h) (by rfl) (by assumption) ?_
              try simp only [Act.put, List.setIfInBounds_toArray, List.set_cons_zero, List.set_cons_succ]
              refine held_skip (i := 23) rfl (by kernel_rfl) (by kernel_rfl) (by kernel_rfl) (fun _ _ _ h => h) (by rfl) (by assumption) ?_
              try simp only [Act.put, List.setIfInBounds_toArray, List.set_cons_zero, List.set_cons_succ]
              refine held_skip (i := 24) rfl (by kernel_rfl) (by kernel_rfl) (by kernel_rfl) (fun _ _ _ h => h) (by rfl) (by assumption) ?_
              try simp only [Act.put, List.setIfInBounds_toArray, List.set_cons_zero, List.set_cons_succ]
              refine held_skip (i := 25) rfl (by kernel_rfl) (by kernel_rfl) (by kernel_rfl) (fun _ _ _ h => h) (by rfl) (by assumption) ?_
              try simp only [Act.put, List.setIfInBounds_toArray, List.set_cons_zero, List.set_cons_succ]
              refine held_take (i := 26) (v := ?_) rfl (by kernel_rfl) (by kernel_rfl) (by kernel_rfl) (fun _ _ _ h => h) (by rfl) ?_ (by assumption) ?_
              rotate_left
              · intro w hSw
                (try dsimp only at hSw)
                go_simp
                try with_reducible rfl
              try simp only [Act.put, List.setIfInBounds_toArray, List.set_cons_zero, List.set_cons_succ]
              refine held_take (i := 27) (v := ?_) rfl (by kernel_rfl) (by kernel_rfl) (by kernel_rfl) (fun _ _ _ h => h) (by rfl) ?_ (by assumption) ?_
              rotate_left
              · intro w hSw
                (try dsimp only at hSw)
                go_simp
                try with_reducible rfl
              try simp only [Act.put, List.setIfInBounds_toArray, List.set_cons_zero, List.set_cons_succ]
              refine held_take (i := 28) (v := ?_) rfl (by kernel_rfl) (by kernel_rfl) (by kernel_rfl) (fun _ _ _ h => h) (by rfl) ?_ (by assumption) ?_
              rotate_left
              · intro w hSw
                (try dsimp only at hSw)
                go_simp
                try with_reducible rfl
              try simp only [Act.put, List.setIfInBounds_toArray, List.set_cons_zero, List.set_cons_succ]
              refine held_call (i := 29) (by kernel_rfl) rfl (fun K hK => ?_)
              go_simp
              refine (awake42 _).mono ?_; rintro e w9 ⟨rfl, hb9⟩; have hw := bthen2 hb9 (by first | exact hw | exact Below.drew hw | exact bdraws hw _)
              refine hK.out _ _ (by (try dsimp only); try exact trivial) (fun hHeld => ?_)
              clear hK K
              try simp only [Act.put, List.setIfInBounds_toArray, List.set_cons_zero, List.set_cons_succ]
              refine held_take (i := 30) (v := ?_) rfl (by kernel_rfl) (by kernel_rfl) (by kernel_rfl) (fun _ _ _ h => h) (by rfl) ?_ (by assumption) ?_
              rotate_left
              · intro w hSw
                (try dsimp only at hSw)
                go_simp
                try with_reducible rfl
              try simp only [Act.put, List.setIfInBounds_toArray, List.set_cons_zero, List.set_cons_succ]
              refine held_take (i := 31) (v := ?_) rfl (by kernel_rfl) (by kernel_rfl) (by kernel_rfl) (fun _ _ _ h => h) (by rfl) ?_ (by assumption) ?_
              rotate_left
              · intro w hSw
                (try dsimp only at hSw)
                go_simp
                try with_reducible rfl
              try simp only [Act.put, List.setIfInBounds_toArray, List.set_cons_zero, List.set_cons_succ]
              refine wpAnyH_done (by kernel_rfl) ?_ _
              go_wp2_with fail
              go_ret
              exact ⟨rfl, by first | exact hw | exact Below.drew hw | exact bdraws hw _⟩
        | false =>
          clear HOV HMOST b0 b1 b2 HC
          go_wp2_with fail
          refine (way_any _ _ _ _).mono ?_; rintro e w5 ⟨v5, rfl, hT5, hb⟩
          replace HA := blk_on HA hb
          replace hw := bthen2 hb hw
          clear hb a0 a1 a2
          rcases Bool.eq_false_or_eq_true (Cv.okB z1 x1 y1) with h | h
          · have hpe := Cv.pe_ok h
            obtain ⟨⟨hz0, hz1⟩, hx0, hx1, hy0, hy1⟩ := Cv.ok_in h
            have hway : Qw.way z1 x1 y1 = Qw.upto z1.toNat x1.toNat y1.toNat (z1.toNat + 1) := by unfold Qw.way; rw [if_pos h]
            rw [hway] at hT5
            obtain ⟨zn, hzn⟩ : ∃ zn, zn = z1.toNat := ⟨_, rfl⟩
            obtain ⟨xn, hxn⟩ : ∃ xn, xn = x1.toNat := ⟨_, rfl⟩
            obtain ⟨yn, hyn⟩ : ∃ yn, yn = y1.toNat := ⟨_, rfl⟩
            rw [← hzn, ← hxn, ← hyn] at hT5
            have ez : z1 = (zn : Int) := by omega
            have hzz : zn ≤ 26 := by omega
            have hxx : xn < 2 ^ zn := by rw [hzn, hxn]; omega
            have hyy : yn < 2 ^ zn := by rw [hzn, hyn]; omega
            have hatx : ∀ n, n ≤ zn → Qc.ok (Qw.at zn xn yn n) = true := fun n hn => (Qw.at_in hzz hxx hyy hn).1
            have hovr := fun (n m : Nat) (hnm : n ≤ m) (hm : m ≤ zn) => Qw.at_over hzz hxx hyy hnm hm
            have hlast := Qw.at_last zn xn yn
            have ext : ((zn : Int), (xn : Int), (yn : Int)) = (z1, x1, y1) := by
              refine Prod.ext (by omega) (Prod.ext ?_ ?_)
              · show (xn : Int) = x1; omega
              · show (yn : Int) = y1; omega
            rw [ext] at hlast
            have HAT := Lib.hid hatx
            have HOVR := Lib.hid hovr
            have HLAST := Lib.hid hlast
            have HPE : Hid (Cv.pe z1 x1 y1 = 0) := Lib.hid hpe
            obtain ⟨g5, c5, rfl, hg5, hc5⟩ := hT5.formed (by rw [Qw.upto_len]; omega)
            have hcell : Hid (∀ k, k ≤ zn → ∀ w', Below w5.heap.size w5 w' → w'.cell? ⟨g5, k * 3, none⟩ = some (.int .i64 (k : Int)) ∧ w'.cell? ⟨g5, k * 3 + 1, none⟩ = some (.int .i64 (Qw.at zn xn yn k).2.1) ∧ w'.cell? ⟨g5, k * 3 + 2, none⟩ = some (.int .i64 (Qw.at zn xn yn k).2.2)) := Lib.hid (fun k hk w' hb => by
              have hkl : k < (Qw.upto zn xn yn (zn + 1)).length := by rw [Qw.upto_len]; omega
              obtain ⟨q0, q1, q2⟩ := tcells_get (Qw.upto zn xn yn (zn + 1)) k hkl
              have hget : (Qw.upto zn xn yn (zn + 1))[k]'hkl = Qw.at zn xn yn k := by simp [Qw.upto]
              rw [hget] at q0 q1 q2
              rw [Qw.upto_len] at hc5
              have cc := fun o => hb.cell (p := (⟨g5, o, none⟩ : Addr)) hg5
              exact ⟨(cc _).trans ((hc5 (k * 3) (by omega)).trans q0), (cc _).trans ((hc5 (k * 3 + 1) (by omega)).trans q1), (cc _).trans ((hc5 (k * 3 + 2) (by omega)).trans q2)⟩)
            rw [Qw.upto_len]
            subst ez
            have q1 : (zn : Int) + 1 > 0 := by omega
            have q2 : ((zn : Int) + 1 == 0) = false := by rw [beq_eq_false_iff_ne]; omega
            have q3 : (zn : Int) < (zn : Int) + 1 := by omega
            have q4 : (zn : Int) ≤ 26 := by omega
            have q5 : (0 : Int) ≤ (zn : Int) := by omega
            clear hway hz0 hz1 hx0 hx1 hy0 hy1 hzn hxn hyn hxx hyy hatx hovr hlast ext hpe h hT5 hc5
            go_wp2_with fail
            have hw5 := Below.refl w5.heap.size w5
            go_loopw [10] (fun ci wr => ∃ k : Nat, k ≤ zn + 1 ∧ ci = .int .i64 k ∧ Hid (wr.heap[w.heap.size]? = some (.cells #[.int .i64 (zn : Int), .int .i64 x1, .int .i64 y1] 23 (0, 0))) ∧ Below w.heap.size w wr ∧ Below w5.heap.size w5 wr) (fun ci _ => zn + 1 - (intOf ci).toNat)
            case atStart => exact ⟨0, by omega, rfl, HA, hw, hw5⟩
            case round =>
              clear HA hw hw5
              obtain ⟨k, hk, rfl, HA, hw, hw5⟩ := hrel
              obtain ⟨⟨a0, a1, a2⟩, _⟩ := blk_cells3 HA.out
              by_cases hlt : k ≤ zn
              · have b2 : (k : Int) < (zn : Int) + 1 := by omega
                have hwk : Qw.at zn xn yn k = ((k : Int), (Qw.at zn xn yn k).2.1, (Qw.at zn xn yn k).2.2) := rfl
                have hck := hcell.out k hlt
                have htwo := Qc.two (HAT.out k hlt) (HAT.out zn (Nat.le_refl _)) (HOVR.out k zn hlt (Nat.le_refl _))
                rw [HLAST.out, hwk] at htwo
                have hprev : ∀ m, k = m + 1 → Cv.ovB (m : Int) (Qw.at zn xn yn m).2.1 (Qw.at zn xn yn m).2.2 (k : Int) (Qw.at zn xn yn k).2.1 (Qw.at zn xn yn k).2.2 = true := fun m hm => (ov_key (by exact HAT.out m (by omega)) (by exact HAT.out k hlt)).2 (by exact HOVR.out m k (by omega) hlt)
                obtain ⟨X, hX⟩ : ∃ X, X = (Qw.at zn xn yn k).2.1 := ⟨_, rfl⟩
                obtain ⟨Y, hY⟩ : ∃ Y, Y = (Qw.at zn xn yn k).2.2 := ⟨_, rfl⟩
                rw [← hX, ← hY] at hck htwo hprev
                have HCOM : Hid (∀ e, ComR [((k : Int), X, Y), ((zn : Int), x1, y1)] e → e = .returned (.tuple #[.agg #[.int .i64 (k : Int), .int .i64 X, .int .i64 Y], .bool true])) := Lib.hid (fun e he => by unfold ComR at he; rw [htwo.1, htwo.2] at he; exact he)
                have HCK := Lib.hid hck
                have HPREV := Lib.hid hprev
                clear hwk hck htwo hprev hX hY
                have qk0 : (0 : Int) ≤ (k : Int) := by omega
                obtain ⟨m0, m1, m2⟩ := HCK.out _ hw5
                rcases Nat.eq_zero_or_pos k with hk0 | hk0
                · have q9 : ¬ (k : Int) > 0 := by omega
                  have q12 : ¬ 0 < k := by omega
                  clear hk0
                  go_wp2_with fail
                  go_quiet (fail)
                  replace hw := bdraws hw nq
                  replace hw5 := bdraws hw5 nq
                  go_wp2_with fail
                  have HZ : Hid (w.heap.size < wr.heap.size) := Lib.hid (by have := blk_lt HA.out; exact this)
                  have HZ5 : Hid (w5.heap.size ≤ wr.heap.size) := Lib.hid (by have := hw5.size; exact this)
                  refine wp_region_held_drew (S := (fun w' => (w'.cell? ⟨w.heap.size, 0, none⟩ = some (.int .i64 (zn : Int)) ∧ w'.cell? ⟨w.heap.size, 1, none⟩ = some (.int .i64 x1) ∧ w'.cell? ⟨w.heap.size, 2, none⟩ = some (.int .i64 y1)) ∧ (w'.cell? ⟨g5, k * 3, none⟩ = some (.int .i64 (k : Int)) ∧ w'.cell? ⟨g5, k * 3 + 1, none⟩ = some (.int .i64 X) ∧ w'.cell? ⟨g5, k * 3 + 2, none⟩ = some (.int .i64 Y)))) (by kernel_rfl) (by (try dsimp only); exact ⟨⟨a0, a1, a2⟩, m0, m1, m2⟩) (fun hHeld => ?_)
                  simp only [List.size_toArray, List.length_cons, List.length_nil, Nat.zero_add, Nat.reduceAdd]
                  refine held_take (i := 0) (v := ?_) rfl (by kernel_rfl) (by kernel_rfl) (by kernel_rfl) (fun _ _ _ h => h) (by rfl) ?_ (by assumption) ?_
                  rotate_left
                  · intro w hSw
                    (try dsimp only at hSw)
                    go_simp
                    try with_reducible rfl
                  try simp only [Act.put, List.setIfInBounds_toArray, List.set_cons_zero, List.set_cons_succ]
                  refine held_take (i := 1) (v := ?_) rfl (by kernel_rfl) (by kernel_rfl) (by kernel_rfl) (fun _ _ _ h => h) (by rfl) ?_ (by assumption) ?_
                  rotate_left
                  · intro w hSw
                    (try dsimp only at hSw)
                    go_simp
                    try with_reducible rfl
                  try simp only [Act.put, List.setIfInBounds_toArray, List.set_cons_zero, List.set_cons_succ]
                  refine held_take (i := 2) (v := ?_) rfl (by kernel_rfl) (by kernel_rfl) (by kernel_rfl) (fun _ _ _ h => h) (by rfl) ?_ (by assumption) ?_
                  rotate_left
                  · intro w hSw
                    (try dsimp only at hSw)
                    go_simp
                    try with_reducible rfl
                  try simp only [Act.put, List.setIfInBounds_toArray, List.set_cons_zero, List.set_cons_succ]
                  refine held_take (i := 3) (v := ?_) rfl (by kernel_rfl) (by kernel_rfl) (by kernel_rfl) (fun _ _ _ h => h) (by rfl) ?_ (by assumption) ?_
                  rotate_left
                  · intro w hSw
                    (try dsimp only at hSw)
                    go_simp
                    try with_reducible rfl
                  try simp only [Act.put, List.setIfInBounds_toArray, List.set_cons_zero, List.set_cons_succ]
                  refine held_take (i := 4) (v := ?_) rfl (by kernel_rfl) (by kernel_rfl) (by kernel_rfl) (fun _ _ _ h => h) (by rfl) ?_ (by assumption) ?_
                  rotate_left
                  · intro w hSw
                    (try dsimp only at hSw)
                    go_simp
                    try with_reducible rfl
                  try simp only [Act.put, List.setIfInBounds_toArray, List.set_cons_zero, List.set_cons_succ]
                  refine held_two (i := 5) (j := 10) (by kernel_rfl) rfl rfl (fun K hK => ?_) (fun K hK => ?_)
                  · go_simp

                    refine hK.out _ _ (by (try dsimp only); exact six_alloc hHeld _) (fun hHeld => ?_)
                    clear hK K
                    try simp only [Act.put, List.setIfInBounds_toArray, List.set_cons_zero, List.set_cons_succ]
                    refine held_two (i := 6) (j := 10) (by kernel_rfl) rfl rfl (fun K hK => ?_) (fun K hK => ?_)
                    · go_simp
                      refine (com_one (by exact HCOM.out) (by first | exact hw | exact Below.drew hw | exact bdraws hw 1) (by first | exact hw5 | exact Below.drew hw5 | exact bdraws hw5 1) (by exact HA.out)).mono ?_; rintro e w9 ⟨rfl, hw, hw5, hA8⟩; have HA := Lib.hid hA8; obtain ⟨⟨a0, a1, a2⟩, _⟩ := blk_cells3 HA.out; obtain ⟨m0, m1, m2⟩ := HCK.out _ hw5
                      refine hK.out _ _ (by (try dsimp only); first | (with_reducible exact ⟨⟨a0, a1, a2⟩, m0, m1, m2⟩) | exact six_alloc hHeld _) (fun hHeld => ?_)
                      clear hK K
                      try simp only [Act.put, List.setIfInBounds_toArray, List.set_cons_zero, List.set_cons_succ]
                      refine held_take (i := 7) (v := ?_) rfl (by kernel_rfl) (by kernel_rfl) (by kernel_rfl) (fun _ _ _ h => h) (by rfl) ?_ (by assumption) ?_
                      rotate_left
                      · intro w hSw
                        (try dsimp only at hSw)
                        go_simp
                        try with_reducible rfl
                      try simp only [Act.put, List.setIfInBounds_toArray, List.set_cons_zero, List.set_cons_succ]
                      refine held_take (i := 8) (v := ?_) rfl (by kernel_rfl) (by kernel_rfl) (by kernel_rfl) (fun _ _ _ h => h) (by rfl) ?_ (by assumption) ?_
                      rotate_left
                      · intro w hSw
                        (try dsimp only at hSw)
                        go_simp
                        try with_reducible rfl
                      try simp only [Act.put, List.setIfInBounds_toArray, List.set_cons_zero, List.set_cons_succ]
                      refine held_take (i := 9) (v := ?_) rfl (by kernel_rfl) (by kernel_rfl) (by kernel_rfl) (fun _ _ _ h => h) (by rfl) ?_ (by assumption) ?_
                      rotate_left
                      · intro w hSw
                        (try dsimp only at hSw)
                        go_simp
                        try with_reducible rfl
                      try simp only [Act.put, List.setIfInBounds_toArray, List.set_cons_zero, List.set_cons_succ]
                      refine held_call (i := 10) (by kernel_rfl) rfl (fun K hK => ?_)
                      go_simp

                      refine hK.out _ _ (by (try dsimp only); exact six_alloc hHeld _) (fun hHeld => ?_)
                      clear hK K
                      try simp only [Act.put, List.setIfInBounds_toArray, List.set_cons_zero, List.set_cons_succ]
                      refine held_call (i := 11) (by kernel_rfl) rfl (fun K hK => ?_)
                      go_simp

                      refine hK.out _ _ (by (try dsimp only); exact six_alloc ⟨⟨a0, a1, a2⟩, m0, m1, m2⟩ _) (fun hHeld => ?_)
                      clear hK K
                      try simp only [Act.put, List.setIfInBounds_toArray, List.set_cons_zero, List.set_cons_succ]
                      refine held_take (i := 12) (v := ?_) rfl (by kernel_rfl) (by kernel_rfl) (by kernel_rfl) (fun _ _ _ h => h) (by rfl) ?_ (by assumption) ?_
                      rotate_left
                      · intro w hSw
                        (try dsimp only at hSw)
                        go_simp
                        try with_reducible rfl
                      try simp only [Act.put, List.setIfInBounds_toArray, List.set_cons_zero, List.set_cons_succ]
                      refine wpAnyH_done (by kernel_rfl) ?_ _
                      go_wp2_with fail
                      go_quiet (fail)
                      go_wp2_with fail
                      exact ⟨⟨k + 1, by omega, by go_num, by first | exact HA | exact Lib.hid (by repeat (first | exact HA.out | refine blk_alloc ?_ _)), by first | exact hw | exact bdraws hw _ | exact bdraws (bl_al hw _) _ | exact bl_al hw _, by first | exact hw5 | exact bdraws hw5 _ | exact bdraws (bl_al hw5 _) _ | exact bl_al hw5 _⟩, by simp [intOf]; omega⟩
                    · go_simp

                      refine hK.out _ _ (by (try dsimp only); first | (with_reducible exact ⟨⟨a0, a1, a2⟩, m0, m1, m2⟩) | exact six_alloc hHeld _) (fun hHeld => ?_)
                      clear hK K
                      try simp only [Act.put, List.setIfInBounds_toArray, List.set_cons_zero, List.set_cons_succ]
                      refine held_call (i := 6) (by kernel_rfl) rfl (fun K hK => ?_)
                      go_simp
                      refine (com_two (by exact HCOM.out) (by first | exact hw | exact Below.drew hw | exact bdraws hw 1) (by first | exact hw5 | exact Below.drew hw5 | exact bdraws hw5 1) (by exact HA.out)).mono ?_; rintro e w9 ⟨rfl, hw, hw5, hA8, hD8⟩; have HD := hD8; (try simp only [World.heap_drewN] at HD); obtain ⟨⟨d0, d1, d2⟩, g0, g1, g2⟩ := blk_cells3 HD; have HA := Lib.hid hA8; obtain ⟨⟨a0, a1, a2⟩, _⟩ := blk_cells3 HA.out; obtain ⟨m0, m1, m2⟩ := HCK.out _ hw5
                      refine hK.out _ _ (by (try dsimp only); exact ⟨⟨a0, a1, a2⟩, m0, m1, m2⟩) (fun hHeld => ?_)
                      clear hK K
                      try simp only [Act.put, List.setIfInBounds_toArray, List.set_cons_zero, List.set_cons_succ]
                      refine held_take (i := 7) (v := ?_) rfl (by kernel_rfl) (by kernel_rfl) (by kernel_rfl) (fun _ _ _ h => h) (by rfl) ?_ (by assumption) ?_
                      rotate_left
                      · intro w hSw
                        (try dsimp only at hSw)
                        go_simp
                        try with_reducible rfl
                      try simp only [Act.put, List.setIfInBounds_toArray, List.set_cons_zero, List.set_cons_succ]
                      refine held_take (i := 8) (v := ?_) rfl (by kernel_rfl) (by kernel_rfl) (by kernel_rfl) (fun _ _ _ h => h) (by rfl) ?_ (by assumption) ?_
                      rotate_left
                      · intro w hSw
                        (try dsimp only at hSw)
                        go_simp
                        try with_reducible rfl
                      try simp only [Act.put, List.setIfInBounds_toArray, List.set_cons_zero, List.set_cons_succ]
                      refine held_take (i := 9) (v := ?_) rfl (by kernel_rfl) (by kernel_rfl) (by kernel_rfl) (fun _ _ _ h => h) (by rfl) ?_ (by assumption) ?_
                      rotate_left
                      · intro w hSw
                        (try dsimp only at hSw)
                        go_simp
                        try with_reducible rfl
                      try simp only [Act.put, List.setIfInBounds_toArray, List.set_cons_zero, List.set_cons_succ]
                      refine held_call (i := 11) (by kernel_rfl) rfl (fun K hK => ?_)
                      go_simp
                      have hw := st3 (d := wr.heap.size + 1) (v0 := .int .i64 (k : Int)) (v1 := .int .i64 X) (v2 := .int .i64 Y) hw (by have := HZ.out; omega); have hw5 := st3 (d := wr.heap.size + 1) (v0 := .int .i64 (k : Int)) (v1 := .int .i64 X) (v2 := .int .i64 Y) hw5 (by have := HZ5.out; omega); have HA := Lib.hid (st3b (d := wr.heap.size + 1) (v0 := .int .i64 (k : Int)) (v1 := .int .i64 X) (v2 := .int .i64 Y) HA.out (by have := HZ.out; omega)); obtain ⟨⟨a0, a1, a2⟩, _⟩ := blk_cells3 HA.out; obtain ⟨m0, m1, m2⟩ := HCK.out _ hw5
                      refine hK.out _ _ (by (try dsimp only); exact ⟨⟨a0, a1, a2⟩, m0, m1, m2⟩) (fun hHeld => ?_)
                      clear hK K
                      try simp only [Act.put, List.setIfInBounds_toArray, List.set_cons_zero, List.set_cons_succ]
                      refine held_take (i := 12) (v := ?_) rfl (by kernel_rfl) (by kernel_rfl) (by kernel_rfl) (fun _ _ _ h => h) (by rfl) ?_ (by assumption) ?_
                      rotate_left
                      · intro w hSw
                        (try dsimp only at hSw)
                        go_simp
                        try with_reducible rfl
                      try simp only [Act.put, List.setIfInBounds_toArray, List.set_cons_zero, List.set_cons_succ]
                      refine wpAnyH_done (by kernel_rfl) ?_ _
                      go_wp2_with fail
                      go_quiet (fail)
                      go_wp2_with fail
                      exact ⟨⟨k + 1, by omega, by go_num, by first | exact HA | exact Lib.hid (by repeat (first | exact HA.out | refine blk_alloc ?_ _)), by first | exact hw | exact bdraws hw _ | exact bdraws (bl_al hw _) _ | exact bl_al hw _, by first | exact hw5 | exact bdraws hw5 _ | exact bdraws (bl_al hw5 _) _ | exact bl_al hw5 _⟩, by simp [intOf]; omega⟩
                  · go_simp

                    refine hK.out _ _ (by (try dsimp only); exact six_alloc hHeld _) (fun hHeld => ?_)
                    clear hK K
                    try simp only [Act.put, List.setIfInBounds_toArray, List.set_cons_zero, List.set_cons_succ]
                    refine held_call (i := 5) (by kernel_rfl) rfl (fun K hK => ?_)
                    go_simp

                    refine hK.out _ _ (by (try dsimp only); exact six_alloc hHeld _) (fun hHeld => ?_)
                    clear hK K
                    try simp only [Act.put, List.setIfInBounds_toArray, List.set_cons_zero, List.set_cons_succ]
                    refine held_call (i := 6) (by kernel_rfl) rfl (fun K hK => ?_)
                    go_simp
                    refine (com_tri (by exact HCOM.out) (by first | exact hw | exact Below.drew hw | exact bdraws hw 1) (by first | exact hw5 | exact Below.drew hw5 | exact bdraws hw5 1) (by exact HA.out)).mono ?_; rintro e w9 ⟨rfl, hw, hw5, hA8, hD8⟩; have HD := hD8; (try simp only [World.heap_drewN] at HD); obtain ⟨⟨d0, d1, d2⟩, g0, g1, g2⟩ := blk_cells3 HD; have HA := Lib.hid hA8; obtain ⟨⟨a0, a1, a2⟩, _⟩ := blk_cells3 HA.out; obtain ⟨m0, m1, m2⟩ := HCK.out _ hw5
                    refine hK.out _ _ (by (try dsimp only); exact ⟨⟨a0, a1, a2⟩, m0, m1, m2⟩) (fun hHeld => ?_)
                    clear hK K
                    try simp only [Act.put, List.setIfInBounds_toArray, List.set_cons_zero, List.set_cons_succ]
                    refine held_take (i := 7) (v := ?_) rfl (by kernel_rfl) (by kernel_rfl) (by kernel_rfl) (fun _ _ _ h => h) (by rfl) ?_ (by assumption) ?_
                    rotate_left
                    · intro w hSw
                      (try dsimp only at hSw)
                      go_simp
                      try with_reducible rfl
                    try simp only [Act.put, List.setIfInBounds_toArray, List.set_cons_zero, List.set_cons_succ]
                    refine held_take (i := 8) (v := ?_) rfl (by kernel_rfl) (by kernel_rfl) (by kernel_rfl) (fun _ _ _ h => h) (by rfl) ?_ (by assumption) ?_
                    rotate_left
                    · intro w hSw
                      (try dsimp only at hSw)
                      go_simp
                      try with_reducible rfl
                    try simp only [Act.put, List.setIfInBounds_toArray, List.set_cons_zero, List.set_cons_succ]
                    refine held_take (i := 9) (v := ?_) rfl (by kernel_rfl) (by kernel_rfl) (by kernel_rfl) (fun _ _ _ h => h) (by rfl) ?_ (by assumption) ?_
                    rotate_left
                    · intro w hSw
                      (try dsimp only at hSw)
                      go_simp
                      try with_reducible rfl
                    try simp only [Act.put, List.setIfInBounds_toArray, List.set_cons_zero, List.set_cons_succ]
                    refine held_call (i := 11) (by kernel_rfl) rfl (fun K hK => ?_)
                    go_simp
                    have hw := st3 (d := wr.heap.size) (v0 := .int .i64 (k : Int)) (v1 := .int .i64 X) (v2 := .int .i64 Y) hw (by have := HZ.out; omega); have hw5 := st3 (d := wr.heap.size) (v0 := .int .i64 (k : Int)) (v1 := .int .i64 X) (v2 := .int .i64 Y) hw5 (by have := HZ5.out; omega); have HA := Lib.hid (st3b (d := wr.heap.size) (v0 := .int .i64 (k : Int)) (v1 := .int .i64 X) (v2 := .int .i64 Y) HA.out (by have := HZ.out; omega)); obtain ⟨⟨a0, a1, a2⟩, _⟩ := blk_cells3 HA.out; obtain ⟨m0, m1, m2⟩ := HCK.out _ hw5
                    refine hK.out _ _ (by (try dsimp only); exact ⟨⟨a0, a1, a2⟩, m0, m1, m2⟩) (fun hHeld => ?_)
                    clear hK K
                    try simp only [Act.put, List.setIfInBounds_toArray, List.set_cons_zero, List.set_cons_succ]
                    refine held_take (i := 12) (v := ?_) rfl (by kernel_rfl) (by kernel_rfl) (by kernel_rfl) (fun _ _ _ h => h) (by rfl) ?_ (by assumption) ?_
                    rotate_left
                    · intro w hSw
                      (try dsimp only at hSw)
                      go_simp
                      try with_reducible rfl
                    try simp only [Act.put, List.setIfInBounds_toArray, List.set_cons_zero, List.set_cons_succ]
                    refine wpAnyH_done (by kernel_rfl) ?_ _
                    go_wp2_with fail
                    go_quiet (fail)
                    go_wp2_with fail
                    exact ⟨⟨k + 1, by omega, by go_num, by first | exact HA | exact Lib.hid (by repeat (first | exact HA.out | refine blk_alloc ?_ _)), by first | exact hw | exact bdraws hw _ | exact bdraws (bl_al hw _) _ | exact bl_al hw _, by first | exact hw5 | exact bdraws hw5 _ | exact bdraws (bl_al hw5 _) _ | exact bl_al hw5 _⟩, by simp [intOf]; omega⟩
                · have q9 : (k : Int) > 0 := by omega
                  obtain ⟨m, hm⟩ : ∃ m, k = m + 1 := ⟨k - 1, by omega⟩
                  have hkm : (k : Int) - 1 = (m : Int) := by omega
                  have hov := HPREV.out m hm
                  have hcm := hcell.out m (by omega)
                  obtain ⟨X2, hX2⟩ : ∃ X2, X2 = (Qw.at zn xn yn m).2.1 := ⟨_, rfl⟩
                  obtain ⟨Y2, hY2⟩ : ∃ Y2, Y2 = (Qw.at zn xn yn m).2.2 := ⟨_, rfl⟩
                  rw [← hX2, ← hY2] at hov hcm
                  have HCM := Lib.hid hcm
                  have q10 : (m : Int) < (zn : Int) + 1 := by omega
                  have q11 : (0 : Int) ≤ (m : Int) := by omega
                  have q17 : (m : Int) < ((zn + 1 : Nat) : Int) := by omega
                  have q13 : IntKind.i64.wrap ((k : Int) - 1) = (m : Int) := by rw [IntKind.wrap_i64]; omega
                  have q14 : wrap64 ((k : Int) - 1) = (m : Int) := by rw [hkm]; exact i64w (by omega) (by omega)
                  have q15 : IntKind.i64.wrap (m : Int) = (m : Int) := by rw [IntKind.wrap_i64]; omega
                  have q16 : wrap64 (m : Int) = (m : Int) := i64w (by omega) (by omega)
                  clear hcm hX2 hY2 hm
                  obtain ⟨p0, p1, p2⟩ := HCM.out _ hw5
                  go_wp2_with fail
                  refine wp_region_held_drew (S := (fun w' => (w'.cell? ⟨w.heap.size, 0, none⟩ = some (.int .i64 (zn : Int)) ∧ w'.cell? ⟨w.heap.size, 1, none⟩ = some (.int .i64 x1) ∧ w'.cell? ⟨w.heap.size, 2, none⟩ = some (.int .i64 y1)) ∧ (w'.cell? ⟨g5, k * 3, none⟩ = some (.int .i64 (k : Int)) ∧ w'.cell? ⟨g5, k * 3 + 1, none⟩ = some (.int .i64 X) ∧ w'.cell? ⟨g5, k * 3 + 2, none⟩ = some (.int .i64 Y)) ∧ (w'.cell? ⟨g5, m * 3, none⟩ = some (.int .i64 (m : Int)) ∧ w'.cell? ⟨g5, m * 3 + 1, none⟩ = some (.int .i64 X2) ∧ w'.cell? ⟨g5, m * 3 + 2, none⟩ = some (.int .i64 Y2)))) (by kernel_rfl) (by (try dsimp only); exact ⟨⟨a0, a1, a2⟩, ⟨m0, m1, m2⟩, ⟨p0, p1, p2⟩⟩) (fun hHeld => ?_)
                  simp only [List.size_toArray, List.length_cons, List.length_nil, Nat.zero_add, Nat.reduceAdd]
                  refine held_take (i := 0) (v := ?_) rfl (by kernel_rfl) (by kernel_rfl) (by kernel_rfl) (fun _ _ _ h => h) (by rfl) ?_ (by assumption) ?_
                  rotate_left
                  · intro w hSw
                    (try dsimp only at hSw)
                    go_simp
                    try with_reducible rfl
                  try simp only [Act.put, List.setIfInBounds_toArray, List.set_cons_zero, List.set_cons_succ]
                  refine held_take (i := 1) (v := ?_) rfl (by kernel_rfl) (by kernel_rfl) (by kernel_rfl) (fun _ _ _ h => h) (by rfl) ?_ (by assumption) ?_
                  rotate_left
                  · intro w hSw
                    (try dsimp only at hSw)
                    go_simp
                    try with_reducible rfl
                  try simp only [Act.put, List.setIfInBounds_toArray, List.set_cons_zero, List.set_cons_succ]
                  refine held_take (i := 2) (v := ?_) rfl (by kernel_rfl) (by kernel_rfl) (by kernel_rfl) (fun _ _ _ h => h) (by rfl) ?_ (by assumption) ?_
                  rotate_left
                  · intro w hSw
                    (try dsimp only at hSw)
                    go_simp
                    try with_reducible rfl
                  try simp only [Act.put, List.setIfInBounds_toArray, List.set_cons_zero, List.set_cons_succ]
                  refine held_take (i := 3) (v := ?_) rfl (by kernel_rfl) (by kernel_rfl) (by kernel_rfl) (fun _ _ _ h => h) (by rfl) ?_ (by assumption) ?_
                  rotate_left
                  · intro w hSw
                    (try dsimp only at hSw)
                    go_simp
                    try with_reducible rfl
                  try simp only [Act.put, List.setIfInBounds_toArray, List.set_cons_zero, List.set_cons_succ]
                  refine held_take (i := 4) (v := ?_) rfl (by kernel_rfl) (by kernel_rfl) (by kernel_rfl) (fun _ _ _ h => h) (by rfl) ?_ (by assumption) ?_
                  rotate_left
                  · intro w hSw
                    (try dsimp only at hSw)
                    go_simp
                    try with_reducible rfl
                  try simp only [Act.put, List.setIfInBounds_toArray, List.set_cons_zero, List.set_cons_succ]
                  refine held_take (i := 5) (v := ?_) rfl (by kernel_rfl) (by kernel_rfl) (by kernel_rfl) (fun _ _ _ h => h) (by rfl) ?_ (by assumption) ?_
                  rotate_left
                  · intro w hSw
                    (try dsimp only at hSw)
                    go_simp
                    try with_reducible rfl
                  try simp only [Act.put, List.setIfInBounds_toArray, List.set_cons_zero, List.set_cons_succ]
                  refine held_take (i := 6) (v := ?_) rfl (by kernel_rfl) (by kernel_rfl) (by kernel_rfl) (fun _ _ _ h => h) (by rfl) ?_ (by assumption) ?_
                  rotate_left
                  · intro w hSw
                    (try dsimp only at hSw)
                    go_simp
                    try with_reducible rfl
                  try simp only [Act.put, List.setIfInBounds_toArray, List.set_cons_zero, List.set_cons_succ]
                  refine held_take (i := 7) (v := ?_) rfl (by kernel_rfl) (by kernel_rfl) (by kernel_rfl) (fun _ _ _ h => h) (by rfl) ?_ (by assumption) ?_
                  rotate_left
                  · intro w hSw
                    (try dsimp only at hSw)
                    go_simp
                    try with_reducible rfl
                  try simp only [Act.put, List.setIfInBounds_toArray, List.set_cons_zero, List.set_cons_succ]
                  refine held_take (i := 8) (v := ?_) rfl (by kernel_rfl) (by kernel_rfl) (by kernel_rfl) (fun _ _ _ h => h) (by rfl) ?_ (by assumption) ?_
                  rotate_left
                  · intro w hSw
                    (try dsimp only at hSw)
                    go_simp
                    try with_reducible rfl
                  try simp only [Act.put, List.setIfInBounds_toArray, List.set_cons_zero, List.set_cons_succ]
                  refine held_take (i := 9) (v := ?_) rfl (by kernel_rfl) (by kernel_rfl) (by kernel_rfl) (fun _ _ _ h => h) (by rfl) ?_ (by assumption) ?_
                  rotate_left
                  · intro w hSw
                    (try dsimp only at hSw)
                    go_simp
                    try with_reducible rfl
                  try simp only [Act.put, List.setIfInBounds_toArray, List.set_cons_zero, List.set_cons_succ]
                  refine held_take (i := 10) (v := ?_) rfl (by kernel_rfl) (by kernel_rfl) (by kernel_rfl) (fun _ _ _ h => h) (by rfl) ?_ (by assumption) ?_
                  rotate_left
                  · intro w hSw
                    (try dsimp only at hSw)
                    go_simp
                    try with_reducible rfl
                  try simp only [Act.put, List.setIfInBounds_toArray, List.set_cons_zero, List.set_cons_succ]
                  refine held_take (i := 11) (v := ?_) rfl (by kernel_rfl) (by kernel_rfl) (by kernel_rfl) (fun _ _ _ h => h) (by rfl) ?_ (by assumption) ?_
                  rotate_left
                  · intro w hSw
                    (try dsimp only at hSw)
                    go_simp
                    try with_reducible rfl
                  try simp only [Act.put, List.setIfInBounds_toArray, List.set_cons_zero, List.set_cons_succ]
                  refine held_take (i := 12) (v := ?_) rfl (by kernel_rfl) (by kernel_rfl) (by kernel_rfl) (fun _ _ _ h => h) (by rfl) ?_ (by assumption) ?_
                  rotate_left
                  · intro w hSw
                    (try dsimp only at hSw)
                    go_simp
                    try with_reducible rfl
                  try simp only [Act.put, List.setIfInBounds_toArray, List.set_cons_zero, List.set_cons_succ]
                  refine held_take (i := 13) (v := ?_) rfl (by kernel_rfl) (by kernel_rfl) (by kernel_rfl) (fun _ _ _ h => h) (by rfl) ?_ (by assumption) ?_
                  rotate_left
                  · intro w hSw
                    (try dsimp only at hSw)
                    go_simp
                    try with_reducible rfl
                  try simp only [Act.put, List.setIfInBounds_toArray, List.set_cons_zero, List.set_cons_succ]
                  refine held_take (i := 14) (v := ?_) rfl (by kernel_rfl) (by kernel_rfl) (by kernel_rfl) (fun _ _ _ h => h) (by rfl) ?_ (by assumption) ?_
                  rotate_left
                  · intro w hSw
                    (try dsimp only at hSw)
                    go_simp
                    try with_reducible rfl
                  try simp only [Act.put, List.setIfInBounds_toArray, List.set_cons_zero, List.set_cons_succ]
                  refine held_take (i := 15) (v := ?_) rfl (by kernel_rfl) (by kernel_rfl) (by kernel_rfl) (fun _ _ _ h => h) (by rfl) ?_ (by assumption) ?_
                  rotate_left
                  · intro w hSw
                    (try dsimp only at hSw)
                    go_simp
                    try with_reducible rfl
                  try simp only [Act.put, List.setIfInBounds_toArray, List.set_cons_zero, List.set_cons_succ]
                  refine held_take (i := 16) (v := ?_) rfl (by kernel_rfl) (by kernel_rfl) (by kernel_rfl) (fun _ _ _ h => h) (by rfl) ?_ (by assumption) ?_
                  rotate_left
                  · intro w hSw
                    (try dsimp only at hSw)
                    go_simp
                    try with_reducible rfl
                  try simp only [Act.put, List.setIfInBounds_toArray, List.set_cons_zero, List.set_cons_succ]
                  refine held_take (i := 17) (v := ?_) rfl (by kernel_rfl) (by kernel_rfl) (by kernel_rfl) (fun _ _ _ h => h) (by rfl) ?_ (by assumption) ?_
                  rotate_left
                  · intro w hSw
                    (try dsimp only at hSw)
                    go_simp
                    try with_reducible rfl
                  try simp only [Act.put, List.setIfInBounds_toArray, List.set_cons_zero, List.set_cons_succ]
                  refine held_take (i := 18) (v := ?_) rfl (by kernel_rfl) (by kernel_rfl) (by kernel_rfl) (fun _ _ _ h => h) (by rfl) ?_ (by assumption) ?_
                  rotate_left
                  · intro w hSw
                    (try dsimp only at hSw)
                    go_simp
                    try with_reducible rfl
                  try simp only [Act.put, List.setIfInBounds_toArray, List.set_cons_zero, List.set_cons_succ]
                  refine held_take (i := 19) (v := ?_) rfl (by kernel_rfl) (by kernel_rfl) (by kernel_rfl) (fun _ _ _ h => h) (by rfl) ?_ (by assumption) ?_
                  rotate_left
                  · intro w hSw
                    (try dsimp only at hSw)
                    go_simp
                    try with_reducible rfl
                  try simp only [Act.put, List.setIfInBounds_toArray, List.set_cons_zero, List.set_cons_succ]
                  refine held_call (i := 20) (by kernel_rfl) rfl (fun K hK => ?_)
                  go_simp
                  refine (over_any _ _ _ _ _ _ _).mono ?_; rintro e w8 ⟨rfl, hb8⟩; have hw := bthen2 hb8 (by first | exact hw | exact Below.drew hw | exact bdraws hw _); have hw5 := bthen2 hb8 (by first | exact hw5 | exact Below.drew hw5 | exact bdraws hw5 _); have HA := Lib.hid (blk_keep2 hb8 HA.out); obtain ⟨⟨a0, a1, a2⟩, _⟩ := blk_cells3 HA.out; obtain ⟨m0, m1, m2⟩ := HCK.out _ hw5; obtain ⟨p0, p1, p2⟩ := HCM.out _ hw5
                  refine hK.out _ _ (by (try dsimp only); exact ⟨⟨a0, a1, a2⟩, ⟨m0, m1, m2⟩, ⟨p0, p1, p2⟩⟩) (fun hHeld => ?_)
                  clear hK K
                  try simp only [Act.put, List.setIfInBounds_toArray, List.set_cons_zero, List.set_cons_succ]
                  refine held_take (i := 21) (v := ?_) rfl (by kernel_rfl) (by kernel_rfl) (by kernel_rfl) (fun _ _ _ h => h) (by rfl) ?_ (by assumption) ?_
                  rotate_left
                  · intro w hSw
                    (try dsimp only at hSw)
                    go_simp
                    try with_reducible rfl
                  try simp only [Act.put, List.setIfInBounds_toArray, List.set_cons_zero, List.set_cons_succ]
                  refine held_take (i := 22) (v := ?_) rfl (by kernel_rfl) (by kernel_rfl) (by kernel_rfl) (fun _ _ _ h => h) (by rfl) ?_ (by assumption) ?_
                  rotate_left
                  · intro w hSw
                    (try dsimp only at hSw)
                    go_simp
                    try with_reducible rfl
                  try simp only [Act.put, List.setIfInBounds_toArray, List.set_cons_zero, List.set_cons_succ]
                  refine held_take (i := 23) (v := ?_) rfl (by kernel_rfl) (by kernel_rfl) (by kernel_rfl) (fun _ _ _ h => h) (by rfl) ?_ (by assumption) ?_
                  rotate_left
                  · intro w hSw
                    (try dsimp only at hSw)
                    go_simp
                    try with_reducible rfl
                  try simp only [Act.put, List.setIfInBounds_toArray, List.set_cons_zero, List.set_cons_succ]
                  refine wpAnyH_done (by kernel_rfl) ?_ _
                  clear p0 p1 p2 q13 q14 q15 q16
                  obtain ⟨wb, rfl⟩ : ∃ wb : World, w8 = wb.drewN 0 := ⟨w8, rfl⟩
                  go_wp2_with fail
                  have HZ : Hid (w.heap.size < wb.heap.size) := Lib.hid (by have := blk_lt HA.out; exact this)
                  have HZ5 : Hid (w5.heap.size ≤ wb.heap.size) := Lib.hid (by have := hw5.size; exact this)
                  refine wp_region_held_drew (S := (fun w' => (w'.cell? ⟨w.heap.size, 0, none⟩ = some (.int .i64 (zn : Int)) ∧ w'.cell? ⟨w.heap.size, 1, none⟩ = some (.int .i64 x1) ∧ w'.cell? ⟨w.heap.size, 2, none⟩ = some (.int .i64 y1)) ∧ (w'.cell? ⟨g5, k * 3, none⟩ = some (.int .i64 (k : Int)) ∧ w'.cell? ⟨g5, k * 3 + 1, none⟩ = some (.int .i64 X) ∧ w'.cell? ⟨g5, k * 3 + 2, none⟩ = some (.int .i64 Y)))) (by kernel_rfl) (by (try dsimp only); exact ⟨⟨a0, a1, a2⟩, m0, m1, m2⟩) (fun hHeld => ?_)
                  simp only [List.size_toArray, List.length_cons, List.length_nil, Nat.zero_add, Nat.reduceAdd]
                  refine held_take (i := 0) (v := ?_) rfl (by kernel_rfl) (by kernel_rfl) (by kernel_rfl) (fun _ _ _ h => h) (by rfl) ?_ (by assumption) ?_
                  rotate_left
                  · intro w hSw
                    (try dsimp only at hSw)
                    go_simp
                    try with_reducible rfl
                  try simp only [Act.put, List.setIfInBounds_toArray, List.set_cons_zero, List.set_cons_succ]
                  refine held_take (i := 1) (v := ?_) rfl (by kernel_rfl) (by kernel_rfl) (by kernel_rfl) (fun _ _ _ h => h) (by rfl) ?_ (by assumption) ?_
                  rotate_left
                  · intro w hSw
                    (try dsimp only at hSw)
                    go_simp
                    try with_reducible rfl
                  try simp only [Act.put, List.setIfInBounds_toArray, List.set_cons_zero, List.set_cons_succ]
                  refine held_take (i := 2) (v := ?_) rfl (by kernel_rfl) (by kernel_rfl) (by kernel_rfl) (fun _ _ _ h => h) (by rfl) ?_ (by assumption) ?_
                  rotate_left
                  · intro w hSw
                    (try dsimp only at hSw)
                    go_simp
                    try with_reducible rfl
                  try simp only [Act.put, List.setIfInBounds_toArray, List.set_cons_zero, List.set_cons_succ]
                  refine held_take (i := 3) (v := ?_) rfl (by kernel_rfl) (by kernel_rfl) (by kernel_rfl) (fun _ _ _ h => h) (by rfl) ?_ (by assumption) ?_
                  rotate_left
                  · intro w hSw
                    (try dsimp only at hSw)
                    go_simp
                    try with_reducible rfl
                  try simp only [Act.put, List.setIfInBounds_toArray, List.set_cons_zero, List.set_cons_succ]
                  refine held_take (i := 4) (v := ?_) rfl (by kernel_rfl) (by kernel_rfl) (by kernel_rfl) (fun _ _ _ h => h) (by rfl) ?_ (by assumption) ?_
                  rotate_left
                  · intro w hSw
                    (try dsimp only at hSw)
                    go_simp
                    try with_reducible rfl
                  try simp only [Act.put, List.setIfInBounds_toArray, List.set_cons_zero, List.set_cons_succ]
                  refine held_two (i := 5) (j := 10) (by kernel_rfl) rfl rfl (fun K hK => ?_) (fun K hK => ?_)
                  · go_simp

                    refine hK.out _ _ (by (try dsimp only); exact six_alloc hHeld _) (fun hHeld => ?_)
                    clear hK K
                    try simp only [Act.put, List.setIfInBounds_toArray, List.set_cons_zero, List.set_cons_succ]
                    refine held_two (i := 6) (j := 10) (by kernel_rfl) rfl rfl (fun K hK => ?_) (fun K hK => ?_)
                    · go_simp
                      refine (com_one (by exact HCOM.out) (by first | exact hw | exact Below.drew hw | exact bdraws hw 1) (by first | exact hw5 | exact Below.drew hw5 | exact bdraws hw5 1) (by exact HA.out)).mono ?_; rintro e w9 ⟨rfl, hw, hw5, hA8⟩; have HA := Lib.hid hA8; obtain ⟨⟨a0, a1, a2⟩, _⟩ := blk_cells3 HA.out; obtain ⟨m0, m1, m2⟩ := HCK.out _ hw5
                      refine hK.out _ _ (by (try dsimp only); first | (with_reducible exact ⟨⟨a0, a1, a2⟩, m0, m1, m2⟩) | exact six_alloc hHeld _) (fun hHeld => ?_)
                      clear hK K
                      try simp only [Act.put, List.setIfInBounds_toArray, List.set_cons_zero, List.set_cons_succ]
                      refine held_take (i := 7) (v := ?_) rfl (by kernel_rfl) (by kernel_rfl) (by kernel_rfl) (fun _ _ _ h => h) (by rfl) ?_ (by assumption) ?_
                      rotate_left
                      · intro w hSw
                        (try dsimp only at hSw)
                        go_simp
                        try with_reducible rfl
                      try simp only [Act.put, List.setIfInBounds_toArray, List.set_cons_zero, List.set_cons_succ]
                      refine held_take (i := 8) (v := ?_) rfl (by kernel_rfl) (by kernel_rfl) (by kernel_rfl) (fun _ _ _ h => h) (by rfl) ?_ (by assumption) ?_
                      rotate_left
                      · intro w hSw
                        (try dsimp only at hSw)
                        go_simp
                        try with_reducible rfl
                      try simp only [Act.put, List.setIfInBounds_toArray, List.set_cons_zero, List.set_cons_succ]
                      refine held_take (i := 9) (v := ?_) rfl (by kernel_rfl) (by kernel_rfl) (by kernel_rfl) (fun _ _ _ h => h) (by rfl) ?_ (by assumption) ?_
                      rotate_left
                      · intro w hSw
                        (try dsimp only at hSw)
                        go_simp
                        try with_reducible rfl
                      try simp only [Act.put, List.setIfInBounds_toArray, List.set_cons_zero, List.set_cons_succ]
                      refine held_call (i := 10) (by kernel_rfl) rfl (fun K hK => ?_)
                      go_simp

                      refine hK.out _ _ (by (try dsimp only); exact six_alloc hHeld _) (fun hHeld => ?_)
                      clear hK K
                      try simp only [Act.put, List.setIfInBounds_toArray, List.set_cons_zero, List.set_cons_succ]
                      refine held_call (i := 11) (by kernel_rfl) rfl (fun K hK => ?_)
                      go_simp

                      refine hK.out _ _ (by (try dsimp only); exact six_alloc ⟨⟨a0, a1, a2⟩, m0, m1, m2⟩ _) (fun hHeld => ?_)
                      clear hK K
                      try simp only [Act.put, List.setIfInBounds_toArray, List.set_cons_zero, List.set_cons_succ]
                      refine held_take (i := 12) (v := ?_) rfl (by kernel_rfl) (by kernel_rfl) (by kernel_rfl) (fun _ _ _ h => h) (by rfl) ?_ (by assumption) ?_
                      rotate_left
                      · intro w hSw
                        (try dsimp only at hSw)
                        go_simp
                        try with_reducible rfl
                      try simp only [Act.put, List.setIfInBounds_toArray, List.set_cons_zero, List.set_cons_succ]
                      refine wpAnyH_done (by kernel_rfl) ?_ _
                      go_wp2_with fail
                      go_quiet (fail)
                      go_wp2_with fail
                      exact ⟨⟨k + 1, by omega, by go_num, by first | exact HA | exact Lib.hid (by repeat (first | exact HA.out | refine blk_alloc ?_ _)), by first | exact hw | exact bdraws hw _ | exact bdraws (bl_al hw _) _ | exact bl_al hw _, by first | exact hw5 | exact bdraws hw5 _ | exact bdraws (bl_al hw5 _) _ | exact bl_al hw5 _⟩, by simp [intOf]; omega⟩
                    · go_simp

                      refine hK.out _ _ (by (try dsimp only); first | (with_reducible exact ⟨⟨a0, a1, a2⟩, m0, m1, m2⟩) | exact six_alloc hHeld _) (fun hHeld => ?_)
                      clear hK K
                      try simp only [Act.put, List.setIfInBounds_toArray, List.set_cons_zero, List.set_cons_succ]
                      refine held_call (i := 6) (by kernel_rfl) rfl (fun K hK => ?_)
                      go_simp
                      refine (com_two (by exact HCOM.out) (by first | exact hw | exact Below.drew hw | exact bdraws hw 1) (by first | exact hw5 | exact Below.drew hw5 | exact bdraws hw5 1) (by exact HA.out)).mono ?_; rintro e w9 ⟨rfl, hw, hw5, hA8, hD8⟩; have HD := hD8; (try simp only [World.heap_drewN] at HD); obtain ⟨⟨d0, d1, d2⟩, g0, g1, g2⟩ := blk_cells3 HD; have HA := Lib.hid hA8; obtain ⟨⟨a0, a1, a2⟩, _⟩ := blk_cells3 HA.out; obtain ⟨m0, m1, m2⟩ := HCK.out _ hw5
                      refine hK.out _ _ (by (try dsimp only); exact ⟨⟨a0, a1, a2⟩, m0, m1, m2⟩) (fun hHeld => ?_)
                      clear hK K
                      try simp only [Act.put, List.setIfInBounds_toArray, List.set_cons_zero, List.set_cons_succ]
                      refine held_take (i := 7) (v := ?_) rfl (by kernel_rfl) (by kernel_rfl) (by kernel_rfl) (fun _ _ _ h => h) (by rfl) ?_ (by assumption) ?_
                      rotate_left
                      · intro w hSw
                        (try dsimp only at hSw)
                        go_simp
                        try with_reducible rfl
                      try simp only [Act.put, List.setIfInBounds_toArray, List.set_cons_zero, List.set_cons_succ]
                      refine held_take (i := 8) (v := ?_) rfl (by kernel_rfl) (by kernel_rfl) (by kernel_rfl) (fun _ _ _ h => h) (by rfl) ?_ (by assumption) ?_
                      rotate_left
                      · intro w hSw
                        (try dsimp only at hSw)
                        go_simp
                        try with_reducible rfl
                      try simp only [Act.put, List.setIfInBounds_toArray, List.set_cons_zero, List.set_cons_succ]
                      refine held_take (i := 9) (v := ?_) rfl (by kernel_rfl) (by kernel_rfl) (by kernel_rfl) (fun _ _ _ h => h) (by rfl) ?_ (by assumption) ?_
                      rotate_left
                      · intro w hSw
                        (try dsimp only at hSw)
                        go_simp
                        try with_reducible rfl
                      try simp only [Act.put, List.setIfInBounds_toArray, List.set_cons_zero, List.set_cons_succ]
                      refine held_call (i := 11) (by kernel_rfl) rfl (fun K hK => ?_)
                      go_simp
                      have hw := st3 (d := wb.heap.size + 1) (v0 := .int .i64 (k : Int)) (v1 := .int .i64 X) (v2 := .int .i64 Y) hw (by have := HZ.out; omega); have hw5 := st3 (d := wb.heap.size + 1) (v0 := .int .i64 (k : Int)) (v1 := .int .i64 X) (v2 := .int .i64 Y) hw5 (by have := HZ5.out; omega); have HA := Lib.hid (st3b (d := wb.heap.size + 1) (v0 := .int .i64 (k : Int)) (v1 := .int .i64 X) (v2 := .int .i64 Y) HA.out (by have := HZ.out; omega)); obtain ⟨⟨a0, a1, a2⟩, _⟩ := blk_cells3 HA.out; obtain ⟨m0, m1, m2⟩ := HCK.out _ hw5
                      refine hK.out _ _ (by (try dsimp only); exact ⟨⟨a0, a1, a2⟩, m0, m1, m2⟩) (fun hHeld => ?_)
                      clear hK K
                      try simp only [Act.put, List.setIfInBounds_toArray, List.set_cons_zero, List.set_cons_succ]
                      refine held_take (i := 12) (v := ?_) rfl (by kernel_rfl) (by kernel_rfl) (by kernel_rfl) (fun _ _ _ h => h) (by rfl) ?_ (by assumption) ?_
                      rotate_left
                      · intro w hSw
                        (try dsimp only at hSw)
                        go_simp
                        try with_reducible rfl
                      try simp only [Act.put, List.setIfInBounds_toArray, List.set_cons_zero, List.set_cons_succ]
                      refine wpAnyH_done (by kernel_rfl) ?_ _
                      go_wp2_with fail
                      go_quiet (fail)
                      go_wp2_with fail
                      exact ⟨⟨k + 1, by omega, by go_num, by first | exact HA | exact Lib.hid (by repeat (first | exact HA.out | refine blk_alloc ?_ _)), by first | exact hw | exact bdraws hw _ | exact bdraws (bl_al hw _) _ | exact bl_al hw _, by first | exact hw5 | exact bdraws hw5 _ | exact bdraws (bl_al hw5 _) _ | exact bl_al hw5 _⟩, by simp [intOf]; omega⟩
                  · go_simp

                    refine hK.out _ _ (by (try dsimp only); exact six_alloc hHeld _) (fun hHeld => ?_)
                    clear hK K
                    try simp only [Act.put, List.setIfInBounds_toArray, List.set_cons_zero, List.set_cons_succ]
                    refine held_call (i := 5) (by kernel_rfl) rfl (fun K hK => ?_)
                    go_simp

                    refine hK.out _ _ (by (try dsimp only); exact six_alloc hHeld _) (fun hHeld => ?_)
                    clear hK K
                    try simp only [Act.put, List.setIfInBounds_toArray, List.set_cons_zero, List.set_cons_succ]
                    refine held_call (i := 6) (by kernel_rfl) rfl (fun K hK => ?_)
                    go_simp
                    refine (com_tri (by exact HCOM.out) (by first | exact hw | exact Below.drew hw | exact bdraws hw 1) (by first | exact hw5 | exact Below.drew hw5 | exact bdraws hw5 1) (by exact HA.out)).mono ?_; rintro e w9 ⟨rfl, hw, hw5, hA8, hD8⟩; have HD := hD8; (try simp only [World.heap_drewN] at HD); obtain ⟨⟨d0, d1, d2⟩, g0, g1, g2⟩ := blk_cells3 HD; have HA := Lib.hid hA8; obtain ⟨⟨a0, a1, a2⟩, _⟩ := blk_cells3 HA.out; obtain ⟨m0, m1, m2⟩ := HCK.out _ hw5
                    refine hK.out _ _ (by (try dsimp only); exact ⟨⟨a0, a1, a2⟩, m0, m1, m2⟩) (fun hHeld => ?_)
                    clear hK K
                    try simp only [Act.put, List.setIfInBounds_toArray, List.set_cons_zero, List.set_cons_succ]
                    refine held_take (i := 7) (v := ?_) rfl (by kernel_rfl) (by kernel_rfl) (by kernel_rfl) (fun _ _ _ h => h) (by rfl) ?_ (by assumption) ?_
                    rotate_left
                    · intro w hSw
                      (try dsimp only at hSw)
                      go_simp
                      try with_reducible rfl
                    try simp only [Act.put, List.setIfInBounds_toArray, List.set_cons_zero, List.set_cons_succ]
                    refine held_take (i := 8) (v := ?_) rfl (by kernel_rfl) (by kernel_rfl) (by kernel_rfl) (fun _ _ _ h => h) (by rfl) ?_ (by assumption) ?_
                    rotate_left
                    · intro w hSw
                      (try dsimp only at hSw)
                      go_simp
                      try with_reducible rfl
                    try simp only [Act.put, List.setIfInBounds_toArray, List.set_cons_zero, List.set_cons_succ]
                    refine held_take (i := 9) (v := ?_) rfl (by kernel_rfl) (by kernel_rfl) (by kernel_rfl) (fun _ _ _ h => h) (by rfl) ?_ (by assumption) ?_
                    rotate_left
                    · intro w hSw
                      (try dsimp only at hSw)
                      go_simp
                      try with_reducible rfl
                    try simp only [Act.put, List.setIfInBounds_toArray, List.set_cons_zero, List.set_cons_succ]
                    refine held_call (i := 11) (by kernel_rfl) rfl (fun K hK => ?_)
                    go_simp
                    have hw := st3 (d := wb.heap.size) (v0 := .int .i64 (k : Int)) (v1 := .int .i64 X) (v2 := .int .i64 Y) hw (by have := HZ.out; omega); have hw5 := st3 (d := wb.heap.size) (v0 := .int .i64 (k : Int)) (v1 := .int .i64 X) (v2 := .int .i64 Y) hw5 (by have := HZ5.out; omega); have HA := Lib.hid (st3b (d := wb.heap.size) (v0 := .int .i64 (k : Int)) (v1 := .int .i64 X) (v2 := .int .i64 Y) HA.out (by have := HZ.out; omega)); obtain ⟨⟨a0, a1, a2⟩, _⟩ := blk_cells3 HA.out; obtain ⟨m0, m1, m2⟩ := HCK.out _ hw5
                    refine hK.out _ _ (by (try dsimp only); exact ⟨⟨a0, a1, a2⟩, m0, m1, m2⟩) (fun hHeld => ?_)
                    clear hK K
                    try simp only [Act.put, List.setIfInBounds_toArray, List.set_cons_zero, List.set_cons_succ]
                    refine held_take (i := 12) (v := ?_) rfl (by kernel_rfl) (by kernel_rfl) (by kernel_rfl) (fun _ _ _ h => h) (by rfl) ?_ (by assumption) ?_
                    rotate_left
                    · intro w hSw
                      (try dsimp only at hSw)
                      go_simp
                      try with_reducible rfl
                    try simp only [Act.put, List.setIfInBounds_toArray, List.set_cons_zero, List.set_cons_succ]
                    refine wpAnyH_done (by kernel_rfl) ?_ _
                    go_wp2_with fail
                    go_quiet (fail)
                    go_wp2_with fail
                    exact ⟨⟨k + 1, by omega, by go_num, by first | exact HA | exact Lib.hid (by repeat (first | exact HA.out | refine blk_alloc ?_ _)), by first | exact hw | exact bdraws hw _ | exact bdraws (bl_al hw _) _ | exact bl_al hw _, by first | exact hw5 | exact bdraws hw5 _ | exact bdraws (bl_al hw5 _) _ | exact bl_al hw5 _⟩, by simp [intOf]; omega⟩
              · obtain rfl : k = zn + 1 := by omega
                have b2 : ¬ ((zn + 1 : Nat) : Int) < (zn : Int) + 1 := by omega
                go_wp2_with fail
                refine (id_any _ _ _ _).mono ?_; rintro e w6 ⟨he, hb⟩
                rw [HPE.out] at he
                subst he
                replace HA := blk_on HA hb
                replace hw := bthen2 hb hw
                replace hw5 := bthen2 hb hw5
                clear hb a0 a1 a2
                obtain ⟨⟨a0, a1, a2⟩, _⟩ := blk_cells3 HA.out
                have hcz : Hid (∀ w', Below w5.heap.size w5 w' → w'.cell? ⟨g5, zn * 3, none⟩ = some (.int .i64 (zn : Int)) ∧ w'.cell? ⟨g5, zn * 3 + 1, none⟩ = some (.int .i64 x1) ∧ w'.cell? ⟨g5, zn * 3 + 2, none⟩ = some (.int .i64 y1)) := Lib.hid (by have h := hcell.out zn (Nat.le_refl _); rw [HLAST.out] at h; exact h)
                obtain ⟨m0, m1, m2⟩ := hcz.out _ hw5
                have q7 : wrap64 ((zn : Int) + 1) = (zn : Int) + 1 := i64w (by omega) (by omega)
                have q8 : IntKind.i64.wrap ((zn : Int) + 1) = (zn : Int) + 1 := by rw [IntKind.wrap_i64]; omega
                go_wp2_with fail
                go_region_held3 (fun w' => (w'.cell? ⟨w.heap.size, 0, none⟩ = some (.int .i64 (zn : Int)) ∧ w'.cell? ⟨w.heap.size, 1, none⟩ = some (.int .i64 x1) ∧ w'.cell? ⟨w.heap.size, 2, none⟩ = some (.int .i64 y1)) ∧ (w'.cell? ⟨g5, zn * 3, none⟩ = some (.int .i64 (zn : Int)) ∧ w'.cell? ⟨g5, zn * 3 + 1, none⟩ = some (.int .i64 x1) ∧ w'.cell? ⟨g5, zn * 3 + 2, none⟩ = some (.int .i64 y1))) (exact ⟨⟨a0, a1, a2⟩, ⟨m0, m1, m2⟩⟩) ((go_at_call 8; refine (awake42 _).mono ?_; rintro e w9 ⟨rfl, hb9⟩; have hw := bthen2 hb9 (by first | exact hw | exact Below.drew hw | exact bdraws hw _); have hw5 := bthen2 hb9 (by first | exact hw5 | exact Below.drew hw5 | exact bdraws hw5 _); have HA := Lib.hid (blk_keep2 hb9 HA.out); obtain ⟨⟨a0, a1, a2⟩, _⟩ := blk_cells3 HA.out; obtain ⟨m0, m1, m2⟩ := hcz.out _ hw5))
                all_goals
                  go_wp2_with fail
                  go_ret
                  exact ⟨rfl, by first | exact hw | exact Below.drew hw | exact bdraws hw _⟩
          · have hpe : (Cv.pe z1 x1 y1 == 0) = false := by rcases Cv.pe_not h with q | q <;> rw [q] <;> rfl
            have hway : Qw.way z1 x1 y1 = [] := by unfold Qw.way; rw [if_neg (by simp [h])]
            rw [hway] at hT5
            obtain ⟨A5, c5, rfl, _⟩ := hT5.reads
            simp only [List.length_nil]
            clear hway h hT5
            go_wp2_with fail
            go_loopw [10] (fun ci wr => ci = .int .i64 0 ∧ Hid (wr.heap[w.heap.size]? = some (.cells #[.int .i64 z1, .int .i64 x1, .int .i64 y1] 23 (0, 0))) ∧ Below w.heap.size w wr) (fun ci _ => 4 - (intOf ci).toNat)
            case atStart => exact ⟨rfl, HA, hw⟩
            case round =>
              clear HA hw
              obtain ⟨rfl, HA, hw⟩ := hrel
              obtain ⟨⟨a0, a1, a2⟩, _⟩ := blk_cells3 HA.out
              go_wp2_with fail
              refine (id_any _ _ _ _).mono ?_; rintro e w6 ⟨rfl, hb⟩
              replace HA := blk_on HA hb
              replace hw := bthen2 hb hw
              clear hb a0 a1 a2
              obtain ⟨⟨a0, a1, a2⟩, _⟩ := blk_cells3 HA.out
              go_wp2_with fail
              refine wp_region_held_drew (S := (fun _ => True)) (by kernel_rfl) (by (try dsimp only); try exact trivial) (fun hHeld => ?_)
              simp only [List.size_toArray, List.length_cons, List.length_nil, Nat.zero_add, Nat.reduceAdd]
              refine held_take (i := 0) (v := ?_) rfl (by kernel_rfl) (by kernel_rfl) (by kernel_rfl) (fun _ _ _ h => h) (by rfl) ?_ (by assumption) ?_
              rotate_left
              · intro w hSw
                (try dsimp only at hSw)
                go_simp
                try with_reducible rfl
              try simp only [Act.put, List.setIfInBounds_toArray, List.set_cons_zero, List.set_cons_succ]
              refine held_take (i := 1) (v := ?_) rfl (by kernel_rfl) (by kernel_rfl) (by kernel_rfl) (fun _ _ _ h => h) (by rfl) ?_ (by assumption) ?_
              rotate_left
              · intro w hSw
                (try dsimp only at hSw)
                go_simp
                try with_reducible rfl
              try simp only [Act.put, List.setIfInBounds_toArray, List.set_cons_zero, List.set_cons_succ]
              refine held_take (i := 2) (v := ?_) rfl (by kernel_rfl) (by kernel_rfl) (by kernel_rfl) (fun _ _ _ h => h) (by rfl) ?_ (by assumption) ?_
              rotate_left
              · intro w hSw
                (try dsimp only at hSw)
                go_simp
                try with_reducible rfl
              try simp only [Act.put, List.setIfInBounds_toArray, List.set_cons_zero, List.set_cons_succ]
              refine held_take (i := 3) (v := ?_) rfl (by kernel_rfl) (by kernel_rfl) (by kernel_rfl) (fun _ _ _ h => h) (by rfl) ?_ (by assumption) ?_
              rotate_left
              · intro w hSw
                (try dsimp only at hSw)
                go_simp
                try with_reducible rfl
              try simp only [Act.put, List.setIfInBounds_toArray, List.set_cons_zero, List.set_cons_succ]
              refine held_take (i := 4) (v := ?_) rfl (by kernel_rfl) (by kernel_rfl) (by kernel_rfl) (fun _ _ _ h => h) (by rfl) ?_ (by assumption) ?_
              rotate_left
              · intro w hSw
                (try dsimp only at hSw)
                go_simp
                try with_reducible rfl
              try simp only [Act.put, List.setIfInBounds_toArray, List.set_cons_zero, List.set_cons_succ]
              refine held_take (i := 5) (v := ?_) rfl (by kernel_rfl) (by kernel_rfl) (by kernel_rfl) (fun _ _ _ h => h) (by rfl) ?_ (by assumption) ?_
              rotate_left
              · intro w hSw
                (try dsimp only at hSw)
                go_simp
                try with_reducible rfl
              try simp only [Act.put, List.setIfInBounds_toArray, List.set_cons_zero, List.set_cons_succ]
              refine held_take (i := 6) (v := ?_) rfl (by kernel_rfl) (by kernel_rfl) (by kernel_rfl) (fun _ _ _ h => h) (by rfl) ?_ (by assumption) ?_
              rotate_left
              · intro w hSw
                (try dsimp only at hSw)
                go_simp
                try with_reducible rfl
              try simp only [Act.put, List.setIfInBounds_toArray, List.set_cons_zero, List.set_cons_succ]
              refine held_take (i := 7) (v := ?_) rfl (by kernel_rfl) (by kernel_rfl) (by kernel_rfl) (fun _ _ _ h => h) (by rfl) ?_ (by assumption) ?_
              rotate_left
              · intro w hSw
                (try dsimp only at hSw)
                go_simp
                try with_reducible rfl
              try simp only [Act.put, List.setIfInBounds_toArray, List.set_cons_zero, List.set_cons_succ]
              refine held_take (i := 8) (v := ?_) rfl (by kernel_rfl) (by kernel_rfl) (by kernel_rfl) (fun _ _ _ h => h) (by rfl) ?_ (by assumption) ?_
              rotate_left
              · intro w hSw
                (try dsimp only at hSw)
                go_simp
                try with_reducible rfl
              try simp only [Act.put, List.setIfInBounds_toArray, List.set_cons_zero, List.set_cons_succ]
              refine held_take (i := 9) (v := ?_) rfl (by kernel_rfl) (by kernel_rfl) (by kernel_rfl) (fun _ _ _ h => h) (by rfl) ?_ (by assumption) ?_
              rotate_left
              · intro w hSw
                (try dsimp only at hSw)
                go_simp
                try with_reducible rfl
              try simp only [Act.put, List.setIfInBounds_toArray, List.set_cons_zero, List.set_cons_succ]
              refine held_take (i := 10) (v := ?_) rfl (by kernel_rfl) (by kernel_rfl) (by kernel_rfl) (fun _ _ _ h => h) (by rfl) ?_ (by assumption) ?_
              rotate_left
              · intro w hSw
                (try dsimp only at hSw)
                go_simp
                try with_reducible rfl
              try simp only [Act.put, List.setIfInBounds_toArray, List.set_cons_zero, List.set_cons_succ]
              refine held_skip (i := 11) rfl (by kernel_rfl) (by kernel_rfl) (by kernel_rfl) (fun _ _ _ h => h) (by rfl) (by assumption) ?_
              try simp only [Act.put, List.setIfInBounds_toArray, List.set_cons_zero, List.set_cons_succ]
              refine held_skip (i := 12) rfl (by kernel_rfl) (by kernel_rfl) (by kernel_rfl) (fun _ _ _ h => h) (by rfl) (by assumption) ?_
              try simp only [Act.put, List.setIfInBounds_toArray, List.set_cons_zero, List.set_cons_succ]
              refine held_skip (i := 13) rfl (by kernel_rfl) (by kernel_rfl) (by kernel_rfl) (fun _ _ _ h => h) (by rfl) (by assumption) ?_
              try simp only [Act.put, List.setIfInBounds_toArray, List.set_cons_zero, List.set_cons_succ]
              refine held_skip (i := 14) rfl (by kernel_rfl) (by kernel_rfl) (by kernel_rfl) (fun _ _ _ h => h) (by rfl) (by assumption) ?_
              try simp only [Act.put, List.setIfInBounds_toArray, List.set_cons_zero, List.set_cons_succ]
              refine held_skip (i := 15) rfl (by kernel_rfl) (by kernel_rfl) (by kernel_rfl) (fun _ _ _ h => h) (by rfl) (by assumption) ?_
              try simp only [Act.put, List.setIfInBounds_toArray, List.set_cons_zero, List.set_cons_succ]
              refine held_skip (i := 16) rfl (by kernel_rfl) (by kernel_rfl) (by kernel_rfl) (fun _ _ _ h => h) (by rfl) (by assumption) ?_
              try simp only [Act.put, List.setIfInBounds_toArray, List.set_cons_zero, List.set_cons_succ]
              refine held_skip (i := 17) rfl (by kernel_rfl) (by kernel_rfl) (by kernel_rfl) (fun _ _ _ h => h) (by rfl) (by assumption) ?_
              try simp only [Act.put, List.setIfInBounds_toArray, List.set_cons_zero, List.set_cons_succ]
              refine held_skip (i := 18) rfl (by kernel_rfl) (by kernel_rfl) (by kernel_rfl) (fun _ _ _ h => h) (by rfl) (by assumption) ?_
              try simp only [Act.put, List.setIfInBounds_toArray, List.set_cons_zero, List.set_cons_succ]
              refine held_skip (i := 19) rfl (by kernel_rfl) (by kernel_rfl) (by kernel_rfl) (fun _ _ _ h => h) (by rfl) (by assumption) ?_
              try simp only [Act.put, List.setIfInBounds_toArray, List.set_cons_zero, List.set_cons_succ]
              refine held_skip (i := 20) rfl (by kernel_rfl) (by kernel_rfl) (by kernel_rfl) (fun _ _ _ h => h) (by rfl) (by assumption) ?_
              try simp only [Act.put, List.setIfInBounds_toArray, List.set_cons_zero, List.set_cons_succ]
              refine held_skip (i := 21) rfl (by kernel_rfl) (by kernel_rfl) (by kernel_rfl) (fun _ _ _ h => h) (by rfl) (by assumption) ?_
              try simp only [Act.put, List.setIfInBounds_toArray, List.set_cons_zero, List.set_cons_succ]
              refine held_skip (i := 22) rfl (by kernel_rfl) (by kernel_rfl) (by kernel_rfl) (fun _ _ _ h => h) (by rfl) (by assumption) ?_
              try simp only [Act.put, List.setIfInBounds_toArray, List.set_cons_zero, List.set_cons_succ]
              refine held_skip (i := 23) rfl (by kernel_rfl) (by kernel_rfl) (by kernel_rfl) (fun _ _ _ h => h) (by rfl) (by assumption) ?_
              try simp only [Act.put, List.setIfInBounds_toArray, List.set_cons_zero, List.set_cons_succ]
              refine held_skip (i := 24) rfl (by kernel_rfl) (by kernel_rfl) (by kernel_rfl) (fun _ _ _ h => h) (by rfl) (by assumption) ?_
              try simp only [Act.put, List.setIfInBounds_toArray, List.set_cons_zero, List.set_cons_succ]
              refine held_skip (i := 25) rfl (by kernel_rfl) (by kernel_rfl) (by kernel_rfl) (fun _ _ _ h => h) (by rfl) (by assumption) ?_
              try simp only [Act.put, List.setIfInBounds_toArray, List.set_cons_zero, List.set_cons_succ]
              refine held_take (i := 26) (v := ?_) rfl (by kernel_rfl) (by kernel_rfl) (by kernel_rfl) (fun _ _ _ h => h) (by rfl) ?_ (by assumption) ?_
              rotate_left
              · intro w hSw
                (try dsimp only at hSw)
                go_simp
                try with_reducible rfl
              try simp only [Act.put, List.setIfInBounds_toArray, List.set_cons_zero, List.set_cons_succ]
              refine held_take (i := 27) (v := ?_) rfl (by kernel_rfl) (by kernel_rfl) (by kernel_rfl) (fun _ _ _ h => h) (by rfl) ?_ (by assumption) ?_
              rotate_left
              · intro w hSw
                (try dsimp only at hSw)
                go_simp
                try with_reducible rfl
              try simp only [Act.put, List.setIfInBounds_toArray, List.set_cons_zero, List.set_cons_succ]
              refine held_take (i := 28) (v := ?_) rfl (by kernel_rfl) (by kernel_rfl) (by kernel_rfl) (fun _ _ _ h => h) (by rfl) ?_ (by assumption) ?_
              rotate_left
              · intro w hSw
                (try dsimp only at hSw)
                go_simp
                try with_reducible rfl
              try simp only [Act.put, List.setIfInBounds_toArray, List.set_cons_zero, List.set_cons_succ]
              refine held_call (i := 29) (by kernel_rfl) rfl (fun K hK => ?_)
              go_simp
              refine (awake42 _).mono ?_; rintro e w9 ⟨rfl, hb9⟩; have hw := bthen2 hb9 (by first | exact hw | exact Below.drew hw | exact bdraws hw _)
              refine hK.out _ _ (by (try dsimp only); try exact trivial) (fun hHeld => ?_)
              clear hK K
              try simp only [Act.put, List.setIfInBounds_toArray, List.set_cons_zero, List.set_cons_succ]
              refine held_take (i := 30) (v := ?_) rfl (by kernel_rfl) (by kernel_rfl) (by kernel_rfl) (fun _ _ _ h => h) (by rfl) ?_ (by assumption) ?_
              rotate_left
              · intro w hSw
                (try dsimp only at hSw)
                go_simp
                try with_reducible rfl
              try simp only [Act.put, List.setIfInBounds_toArray, List.set_cons_zero, List.set_cons_succ]
              refine held_take (i := 31) (v := ?_) rfl (by kernel_rfl) (by kernel_rfl) (by kernel_rfl) (fun _ _ _ h => h) (by rfl) ?_ (by assumption) ?_
              rotate_left
              · intro w hSw
                (try dsimp only at hSw)
                go_simp
                try with_reducible rfl
              try simp only [Act.put, List.setIfInBounds_toArray, List.set_cons_zero, List.set_cons_succ]
              refine wpAnyH_done (by kernel_rfl) ?_ _
              go_wp2_with fail
              go_ret
              exact ⟨rfl, by first | exact hw | exact Below.drew hw | exact bdraws hw _⟩

theorem proved : Rows.QuadOverCardSaid := card walk
end Go.Proofs.YtdipincjginmcaaDoor.quadOver
