/- The walk of the document's Way. -/
import Derived.Test.YtdipincjginmcaaDoorQuadOverMath
import Derived.Test.YtdipincjginmcaaDoorQuadTiles
import Derived.Test.YtdipincjginmcaaDoorHeld2
import Derived.Deep.Onto
namespace Go.Proofs.YtdipincjginmcaaDoor
open Go.RowKit

theorem upto_rec (n x y : Nat) : Qw.upto (n + 1) x y (n + 2) = Qw.upto n (x / 2) (y / 2) (n + 1) ++ [((n : Int) + 1, (x : Int), (y : Int))] := by
  rw [Qw.upto_succ, Qw.at_last]
  congr 1
  unfold Qw.upto
  apply List.map_congr_left
  intro k hk
  rw [List.mem_range] at hk
  unfold Qw.at
  have e : n + 1 - k = (n - k) + 1 := by omega
  have h : ∀ a : Nat, a / 2 ^ (n + 1 - k) = a / 2 / 2 ^ (n - k) := fun a => by rw [e, Nat.pow_succ, Nat.div_div_eq_div_mul, Nat.mul_comm]
  rw [h, h]
theorem bl_al {a w : World} (h : Below a.heap.size a w) (o : Obj) : Below a.heap.size a (w.alloc o) := h.alloc h.size _
theorem cell_al {w : World} {p : Addr} {v : Value} (h : w.cell? p = some v) (o : Obj) : (w.alloc o).cell? p = some v := by
  have hlt : p.block < w.heap.size := by
    rcases Nat.lt_or_ge p.block w.heap.size with hlt | hge
    · exact hlt
    · simp [World.cell?, Array.getElem?_eq_none hge] at h
  exact (((Below.refl w.heap.size w).alloc (Nat.le_refl _) o).cell hlt).trans h
theorem three_alloc {w : World} {p1 p2 p3 : Addr} {v1 v2 v3 : Value} (h : w.cell? p1 = some v1 ∧ w.cell? p2 = some v2 ∧ w.cell? p3 = some v3) (o : Obj) : (w.alloc o).cell? p1 = some v1 ∧ (w.alloc o).cell? p2 = some v2 ∧ (w.alloc o).cell? p3 = some v3 :=
  ⟨cell_al h.1 o, cell_al h.2.1 o, cell_al h.2.2 o⟩
section
variable {a W : World} {z x y : Int} {O : Obj} {L : List Tl} {c0 c1 c2 : Value}
theorem way_one (h : ∀ w, Calls Tryd.prog 22 #[.agg #[.int .i64 z, .int .i64 x, .int .i64 y]] w fun e w' => SlicePost 23 L w e w') (hw : Below a.heap.size a W) (hA : W.heap[a.heap.size]? = some O) :
    Calls Tryd.prog 22 #[.agg #[.int .i64 z, .int .i64 x, .int .i64 y]] W fun e w8 => ∃ v, e = .returned v ∧ w8.ownsRow (a.heap.size + 1) 23 3 v L.length (tcells L) ∧ Below a.heap.size a w8 ∧ w8.heap[a.heap.size]? = some O := by
  refine (h W).mono ?_
  rintro e w8 ⟨v, rfl, hT, hb⟩
  exact ⟨v, rfl, World.ownsRow.mono hT (blk_lt hA), bthen2 hb hw, blk_keep2 hb hA⟩
theorem way_two (h : ∀ w, Calls Tryd.prog 22 #[.agg #[.int .i64 z, .int .i64 x, .int .i64 y]] w fun e w' => SlicePost 23 L w e w') (hw : Below a.heap.size a W) (hA : W.heap[a.heap.size]? = some O) :
    Calls Tryd.prog 22 #[.agg #[.int .i64 z, .int .i64 x, .int .i64 y]] (W.alloc (.cells #[c0, c1, c2] 23)) fun e w8 => ∃ v, e = .returned v ∧ w8.ownsRow (a.heap.size + 1) 23 3 v L.length (tcells L) ∧ Below a.heap.size a w8 ∧ w8.heap[a.heap.size]? = some O ∧ w8.ownsRow 0 23 3 (.slice (some ⟨W.heap.size, 0, none⟩) 1 1) 1 [c0, c1, c2] := by
  refine (h _).mono ?_
  rintro e w8 ⟨v, rfl, hT, hb⟩
  exact ⟨v, rfl, World.ownsRow.mono hT (by have := blk_lt hA; simp; omega), bthen2 hb (bl_al hw _), blk_keep2 hb (blk_alloc hA _), ownsRow_keep (World.ownsRow_lit W #[c0, c1, c2] 1 (Nat.zero_le _) (by decide) rfl) hb⟩
end

set_option maxRecDepth 100000 in
set_option maxHeartbeats 4000000 in
theorem refway_ok (n : Nat) : ∀ (x y : Nat) (w : World), n ≤ 26 → x < 2 ^ n → y < 2 ^ n →
    Calls Tryd.prog 22 #[.agg #[.int .i64 (n : Int), .int .i64 (x : Int), .int .i64 (y : Int)]] w fun e w' => SlicePost 23 (Qw.upto n x y (n + 1)) w e w' := by
  induction n with
  | zero =>
    intro x y w hn hx hy
    simp at hx hy
    subst hx hy
    have hpe := Cv.pe_ok (Cv.ok_mk 0 0 0 (by omega) (by decide) (by decide))
    have HPE := Lib.hid hpe
    clear hpe
    go_enter Tryd.func22, Tryd.ntmps22
    go_wp2_with fail
    refine (refid_any _ _ _ _).mono ?_; rintro e w1 ⟨he, hb⟩
    rw [show Cv.pe 0 0 0 = 0 from HPE.out] at he
    subst he
    obtain ⟨c0, c1, c2⟩ := (blk_cells3 (blk_one hb).1).1
    have hw := (blk_one hb).2.2
    clear hb
    go_wp2_with fail
    go_ret
    exact ⟨_, rfl, World.ownsRow_lit w1 #[.int .i64 0, .int .i64 0, .int .i64 0] 1 hw.size (by decide) rfl, bl_al hw _⟩
  | succ n ih =>
    intro x y w hn hx hy
    have hok := Cv.ok_mk (n + 1) x y hn hx hy
    have hpe := Cv.pe_ok hok
    rw [Nat.pow_succ] at hx hy
    have ih' : ∀ w, Calls Tryd.prog 22 #[.agg #[.int .i64 (n : Int), .int .i64 ((x : Int) / 2), .int .i64 ((y : Int) / 2)]] w fun e w' => SlicePost 23 (Qw.upto n (x / 2) (y / 2) (n + 1)) w e w' := fun w => by
      have h := ih (x / 2) (y / 2) w (by omega) (by omega) (by omega)
      rwa [show ((x / 2 : Nat) : Int) = (x : Int) / 2 by omega, show ((y / 2 : Nat) : Int) = (y : Int) / 2 by omega] at h
    have hpw := Nat.pow_le_pow_right (n := 2) (by omega) (show n ≤ 25 by omega)
    have hx1 : (x : Int) < 67108864 := by simp at hpw; omega
    have hy1 : (y : Int) < 67108864 := by simp at hpw; omega
    have HPE : Hid (Cv.pe ((n : Int) + 1) x y = 0) := Lib.hid (by have h := hpe; simpa using h)
    have hln : (Qw.upto n (x / 2) (y / 2) (n + 1)).length = n + 1 := Qw.upto_len _ _ _ _
    have hup := upto_rec n x y
    obtain ⟨L, hL⟩ : ∃ L, L = Qw.upto n (x / 2) (y / 2) (n + 1) := ⟨_, rfl⟩
    rw [← hL] at ih' hln hup
    have HIH := Lib.hid ih'
    have HL : Hid (Qw.upto (n + 1) x y (n + 1 + 1) = L ++ [((n : Int) + 1, (x : Int), (y : Int))] ∧ L.length = n + 1) := Lib.hid ⟨hup, hln⟩
    have hz0 : (((n : Int) + 1) == 0) = false := by rw [beq_eq_false_iff_ne]; omega
    have hn1 : (n : Int) ≤ 25 := by omega
    have hn0 : (0 : Int) ≤ (n : Int) := by omega
    have hx0 : (0 : Int) ≤ (x : Int) := by omega
    have hy0 : (0 : Int) ≤ (y : Int) := by omega
    have HN := Lib.hid hn
    obtain ⟨i0, hi, iz0, iz1, iz2⟩ := info_parts rtile_info
    clear ih ih' hok hpe hx hy hpw hL hn hup hln
    push_cast
    go_enter Tryd.func22, Tryd.ntmps22
    go_wp2_with fail
    refine (refid_any _ _ _ _).mono ?_; rintro e w1 ⟨he, hb⟩
    rw [HPE.out] at he
    subst he
    have HB := Lib.hid (blk_one hb).1
    have hw := (blk_one hb).2.2
    clear hb
    obtain ⟨wb, rfl⟩ : ∃ wb : World, w1 = wb.drewN 0 := ⟨w1, rfl⟩
    obtain ⟨c0, c1, c2⟩ := (blk_cells3 HB.out).1
    have hq1 : (n : Int) + 1 - 1 = (n : Int) := by omega
    have hq2 : IntKind.i64.wrap (n : Int) = (n : Int) := by rw [IntKind.wrap_i64]; omega
    have hq3 : (x : Int).tdiv 2 = (x : Int) / 2 := Int.tdiv_eq_ediv_of_nonneg hx0
    have hq4 : (y : Int).tdiv 2 = (y : Int) / 2 := Int.tdiv_eq_ediv_of_nonneg hy0
    have hq5 : IntKind.i64.wrap ((x : Int) / 2) = (x : Int) / 2 := by rw [IntKind.wrap_i64]; omega
    have hq6 : IntKind.i64.wrap ((y : Int) / 2) = (y : Int) / 2 := by rw [IntKind.wrap_i64]; omega
    go_wp2_with fail
    refine wp_region_held_drew (S := (fun w' => (w'.cell? ⟨w.heap.size, 0, none⟩ = some (.int .i64 ((n : Int) + 1)) ∧ w'.cell? ⟨w.heap.size, 1, none⟩ = some (.int .i64 (x : Int)) ∧ w'.cell? ⟨w.heap.size, 2, none⟩ = some (.int .i64 (y : Int))))) (by kernel_rfl) (by (try dsimp only); exact ⟨c0, c1, c2⟩) (fun hHeld => ?_)
    simp only [List.size_toArray, List.length_cons, List.length_nil, Nat.zero_add, Nat.reduceAdd]
    refine held_take (i := 0) (v := ?_) rfl (by kernel_rfl) (by kernel_rfl) (by kernel_rfl) (fun _ _ _ h => h) (by rfl) ?_ (by assumption) ?_
    rotate_left
    · intro w hSw
      (try dsimp only at hSw)
      go_simp
      try with_reducible rfl
    try simp only [Act.put, List.setIfInBounds_toArray, List.set_cons_zero, List.set_cons_succ]
    refine held_take (i := 1) (v := ?_) rfl (by kernel_rfl) (by kernel_rfl) (by kernel_rfl) (fun _ _ _ h => h) (by rfl) ?_ (by assumption) ?_
    rotate_left
    · intro w hSw
      (try dsimp only at hSw)
      go_simp
      try with_reducible rfl
    try simp only [Act.put, List.setIfInBounds_toArray, List.set_cons_zero, List.set_cons_succ]
    refine held_take (i := 2) (v := ?_) rfl (by kernel_rfl) (by kernel_rfl) (by kernel_rfl) (fun _ _ _ h => h) (by rfl) ?_ (by assumption) ?_
    rotate_left
    · intro w hSw
      (try dsimp only at hSw)
      go_simp
      try with_reducible rfl
    try simp only [Act.put, List.setIfInBounds_toArray, List.set_cons_zero, List.set_cons_succ]
    refine held_take (i := 3) (v := ?_) rfl (by kernel_rfl) (by kernel_rfl) (by kernel_rfl) (fun _ _ _ h => h) (by rfl) ?_ (by assumption) ?_
    rotate_left
    · intro w hSw
      (try dsimp only at hSw)
      go_simp
      try with_reducible rfl
    try simp only [Act.put, List.setIfInBounds_toArray, List.set_cons_zero, List.set_cons_succ]
    refine held_take (i := 4) (v := ?_) rfl (by kernel_rfl) (by kernel_rfl) (by kernel_rfl) (fun _ _ _ h => h) (by rfl) ?_ (by assumption) ?_
    rotate_left
    · intro w hSw
      (try dsimp only at hSw)
      go_simp
      try with_reducible rfl
    try simp only [Act.put, List.setIfInBounds_toArray, List.set_cons_zero, List.set_cons_succ]
    refine held_take (i := 5) (v := ?_) rfl (by kernel_rfl) (by kernel_rfl) (by kernel_rfl) (fun _ _ _ h => h) (by rfl) ?_ (by assumption) ?_
    rotate_left
    · intro w hSw
      (try dsimp only at hSw)
      go_simp
      try with_reducible rfl
    try simp only [Act.put, List.setIfInBounds_toArray, List.set_cons_zero, List.set_cons_succ]
    refine held_take (i := 6) (v := ?_) rfl (by kernel_rfl) (by kernel_rfl) (by kernel_rfl) (fun _ _ _ h => h) (by rfl) ?_ (by assumption) ?_
    rotate_left
    · intro w hSw
      (try dsimp only at hSw)
      go_simp
      try with_reducible rfl
    try simp only [Act.put, List.setIfInBounds_toArray, List.set_cons_zero, List.set_cons_succ]
    refine held_take (i := 7) (v := ?_) rfl (by kernel_rfl) (by kernel_rfl) (by kernel_rfl) (fun _ _ _ h => h) (by rfl) ?_ (by assumption) ?_
    rotate_left
    · intro w hSw
      (try dsimp only at hSw)
      go_simp
      try with_reducible rfl
    try simp only [Act.put, List.setIfInBounds_toArray, List.set_cons_zero, List.set_cons_succ]
    refine held_take (i := 8) (v := ?_) rfl (by kernel_rfl) (by kernel_rfl) (by kernel_rfl) (fun _ _ _ h => h) (by rfl) ?_ (by assumption) ?_
    rotate_left
    · intro w hSw
      (try dsimp only at hSw)
      go_simp
      try with_reducible rfl
    try simp only [Act.put, List.setIfInBounds_toArray, List.set_cons_zero, List.set_cons_succ]
    refine held_take (i := 9) (v := ?_) rfl (by kernel_rfl) (by kernel_rfl) (by kernel_rfl) (fun _ _ _ h => h) (by rfl) ?_ (by assumption) ?_
    rotate_left
    · intro w hSw
      (try dsimp only at hSw)
      go_simp
      try with_reducible rfl
    try simp only [Act.put, List.setIfInBounds_toArray, List.set_cons_zero, List.set_cons_succ]
    refine held_take (i := 11) (v := ?_) rfl (by kernel_rfl) (by kernel_rfl) (by kernel_rfl) (fun _ _ _ h => h) (by rfl) ?_ (by assumption) ?_
    rotate_left
    · intro w hSw
      (try dsimp only at hSw)
      go_simp
      try with_reducible rfl
    try simp only [Act.put, List.setIfInBounds_toArray, List.set_cons_zero, List.set_cons_succ]
    clear hq1 hq2 hq3 hq4 hq5 hq6
    refine held_two (i := 10) (j := 12) (by kernel_rfl) rfl rfl (fun K hK => ?_) (fun K hK => ?_)
    · go_simp
      refine (way_one (by exact HIH.out) (by first | exact hw | exact Below.drew hw | exact bdraws hw 1) (by exact HB.out)).mono ?_; rintro e w8 ⟨v8, rfl, hO, hw, hB8⟩; have HB := Lib.hid hB8; have HO : Hid (w8.ownsRow (w.heap.size + 1) 23 3 v8 (n + 1) (tcells L)) := Lib.hid (by rw [← HL.out.2]; exact hO); obtain ⟨⟨c0, c1, c2⟩, _⟩ := blk_cells3 HB.out
      refine hK.out _ _ (by (try dsimp only); first | (with_reducible exact ⟨c0, c1, c2⟩) | exact three_alloc hHeld _) (fun hHeld => ?_)
      clear hK K
      try simp only [Act.put, List.setIfInBounds_toArray, List.set_cons_zero, List.set_cons_succ]
      refine held_call (i := 12) (by kernel_rfl) rfl (fun K hK => ?_)
      go_simp

      refine hK.out _ _ (by (try dsimp only); exact three_alloc hHeld _) (fun hHeld => ?_)
      clear hK K
      try simp only [Act.put, List.setIfInBounds_toArray, List.set_cons_zero, List.set_cons_succ]
      refine held_call (i := 13) (by kernel_rfl) rfl (fun K hK => ?_)
      rw [if_pos (by rfl)]
      refine wp_append_any _ (.tmp 27) (.tmp 29) 40 rfl (w.heap.size + 1) 23 i0 _ 3 24 Tryd.underlying40 hi iz0 iz1 iz2 rfl (by omega) v8 (n + 1) (tcells L) rfl (HO.out.alloc _) _ _ 1 1 [.int .i64 ((n : Int) + 1), .int .i64 (x : Int), .int .i64 (y : Int)] rfl (Reads.of_own (base := 0) (e := 23) (c := 1) (World.ownsRow_lit _ _ 1 (Nat.zero_le _) (by decide) rfl)) ?c1 ?c2 ?c3 ?c4 ?_
      case c1 => intro u hu; simp at hu; rcases hu with rfl | rfl | rfl <;> rfl
      case c2 => simp only [maxLen]; omega
      case c3 => omega
      case c4 => have := blk_lt HB.out; first | omega | (simp; omega)
      intro v3 w3 hown3 hgr3 _
      have hlt3 := fun g hg => (HO.out.lt g hg).1
      have hw3 : Below w.heap.size w w3 := (bl_al hw _).grown hgr3 (by have := blk_lt HB.out; first | omega | (simp; omega)) (fun g hg => Nat.le_of_succ_le (hlt3 g hg))
      have hne3 : some w.heap.size ≠ v8.ownBlock := fun h => by have := hlt3 _ h.symm; omega
      have HO3 := Lib.hid hown3
      replace c0 := hgr3.cell hHeld.1 (by exact hne3)
      replace c1 := hgr3.cell hHeld.2.1 (by exact hne3)
      replace c2 := hgr3.cell hHeld.2.2 (by exact hne3)
      clear hown3 hgr3 hlt3 hne3
      refine hK.out _ _ (by (try dsimp only); exact ⟨c0, c1, c2⟩) (fun hHeld => ?_)
      clear hK K
      try simp only [Act.put, List.setIfInBounds_toArray, List.set_cons_zero, List.set_cons_succ]
      refine held_take (i := 14) (v := ?_) rfl (by kernel_rfl) (by kernel_rfl) (by kernel_rfl) (fun _ _ _ h => h) (by rfl) ?_ (by assumption) ?_
      rotate_left
      · intro w hSw
        (try dsimp only at hSw)
        go_simp
        try with_reducible rfl
      try simp only [Act.put, List.setIfInBounds_toArray, List.set_cons_zero, List.set_cons_succ]
      refine wpAnyH_done (by kernel_rfl) ?_ _
      go_wp2_with fail
      go_ret
      exact ⟨v3, rfl, by rw [HL.out.1, TilesAt, List.length_append, HL.out.2, tcells_snoc]; exact World.ownsRow.mono HO3.out (Nat.le_succ _), hw3⟩
    · go_simp

      refine hK.out _ _ (by (try dsimp only); first | (with_reducible exact ⟨c0, c1, c2⟩) | exact three_alloc hHeld _) (fun hHeld => ?_)
      clear hK K
      try simp only [Act.put, List.setIfInBounds_toArray, List.set_cons_zero, List.set_cons_succ]
      refine held_call (i := 10) (by kernel_rfl) rfl (fun K hK => ?_)
      go_simp
      refine (way_two (by exact HIH.out) (by first | exact hw | exact Below.drew hw | exact bdraws hw 1) (by exact HB.out)).mono ?_; rintro e w8 ⟨v8, rfl, hO, hw, hB8, hS8⟩; have HB := Lib.hid hB8; have HO : Hid (w8.ownsRow (w.heap.size + 1) 23 3 v8 (n + 1) (tcells L)) := Lib.hid (by rw [← HL.out.2]; exact hO); have HS := Lib.hid hS8; obtain ⟨⟨c0, c1, c2⟩, _⟩ := blk_cells3 HB.out
      refine hK.out _ _ (by (try dsimp only); exact ⟨c0, c1, c2⟩) (fun hHeld => ?_)
      clear hK K
      try simp only [Act.put, List.setIfInBounds_toArray, List.set_cons_zero, List.set_cons_succ]
      refine held_call (i := 13) (by kernel_rfl) rfl (fun K hK => ?_)
      rw [if_pos (by rfl)]
      refine wp_append_any _ (.tmp 27) (.tmp 29) 40 rfl (w.heap.size + 1) 23 i0 _ 3 24 Tryd.underlying40 hi iz0 iz1 iz2 rfl (by omega) v8 (n + 1) (tcells L) rfl HO.out _ _ 1 1 [.int .i64 ((n : Int) + 1), .int .i64 (x : Int), .int .i64 (y : Int)] rfl (Reads.of_own HS.out) ?c1 ?c2 ?c3 ?c4 ?_
      case c1 => intro u hu; simp at hu; rcases hu with rfl | rfl | rfl <;> rfl
      case c2 => simp only [maxLen]; omega
      case c3 => omega
      case c4 => have := blk_lt HB.out; first | omega | (simp; omega)
      intro v3 w3 hown3 hgr3 _
      have hlt3 := fun g hg => (HO.out.lt g hg).1
      have hw3 : Below w.heap.size w w3 := hw.grown hgr3 (by have := blk_lt HB.out; first | omega | (simp; omega)) (fun g hg => Nat.le_of_succ_le (hlt3 g hg))
      have hne3 : some w.heap.size ≠ v8.ownBlock := fun h => by have := hlt3 _ h.symm; omega
      have HO3 := Lib.hid hown3
      replace c0 := hgr3.cell hHeld.1 (by exact hne3)
      replace c1 := hgr3.cell hHeld.2.1 (by exact hne3)
      replace c2 := hgr3.cell hHeld.2.2 (by exact hne3)
      clear hown3 hgr3 hlt3 hne3
      refine hK.out _ _ (by (try dsimp only); exact ⟨c0, c1, c2⟩) (fun hHeld => ?_)
      clear hK K
      try simp only [Act.put, List.setIfInBounds_toArray, List.set_cons_zero, List.set_cons_succ]
      refine held_take (i := 14) (v := ?_) rfl (by kernel_rfl) (by kernel_rfl) (by kernel_rfl) (fun _ _ _ h => h) (by rfl) ?_ (by assumption) ?_
      rotate_left
      · intro w hSw
        (try dsimp only at hSw)
        go_simp
        try with_reducible rfl
      try simp only [Act.put, List.setIfInBounds_toArray, List.set_cons_zero, List.set_cons_succ]
      refine wpAnyH_done (by kernel_rfl) ?_ _
      go_wp2_with fail
      go_ret
      exact ⟨v3, rfl, by rw [HL.out.1, TilesAt, List.length_append, HL.out.2, tcells_snoc]; exact World.ownsRow.mono HO3.out (Nat.le_succ _), hw3⟩

theorem refway_any (z x y : Int) (w : World) :
    Calls Tryd.prog 22 #[.agg #[.int .i64 z, .int .i64 x, .int .i64 y]] w fun e w' => SlicePost 23 (Qw.way z x y) w e w' := by
  rcases Bool.eq_false_or_eq_true (Cv.okB z x y) with h | h
  · obtain ⟨⟨hz0, hz1⟩, hx0, hx1, hy0, hy1⟩ := Cv.ok_in h
    have hk := refway_ok z.toNat x.toNat y.toNat w (by omega) (by omega) (by omega)
    rw [Int.toNat_of_nonneg hz0, Int.toNat_of_nonneg hx0, Int.toNat_of_nonneg hy0] at hk
    unfold Qw.way
    rw [if_pos h]
    exact hk
  · have hpe : (Cv.pe z x y != 0) = true := by rcases Cv.pe_not h with q | q <;> rw [q] <;> rfl
    have hway : Qw.way z x y = [] := by unfold Qw.way; rw [if_neg (by simp [h])]
    rw [hway]
    clear h hway
    go_enter Tryd.func22, Tryd.ntmps22
    go_wp2_with fail
    refine (refid_any _ _ _ _).mono ?_; rintro e w1 ⟨rfl, hb⟩
    have hw := (blk_one hb).2.2
    clear hb
    go_wp2_with fail
    go_ret
    exact ⟨_, rfl, World.ownsRow_nil _ _ _ _, hw⟩
end Go.Proofs.YtdipincjginmcaaDoor
