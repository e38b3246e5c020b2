/- The walk of the layout's Cut. -/
import Derived.Test.YtlfahmdndlmhpaaGreatDoorHeadDec
import Derived.Test.YtlfahmdndlmhpaaGreatDoorLayGlue
import Derived.Test.YtlfahmdndlmhpaaGreatDoorM18
import Derived.Deep.WholeRow
namespace Go.Proofs.YtlfahmdndlmhpaaGreatDoor
open Go.RowKit

def Ly.pt (p0 p1 p2 p3 : ByteArray) : Nat → List Value
  | 0 => [.string ⟨#[]⟩, .string ⟨#[]⟩, .string ⟨#[]⟩, .string ⟨#[]⟩]
  | 1 => [.string p0, .string ⟨#[]⟩, .string ⟨#[]⟩, .string ⟨#[]⟩]
  | 2 => [.string p0, .string p1, .string ⟨#[]⟩, .string ⟨#[]⟩]
  | 3 => [.string p0, .string p1, .string p2, .string ⟨#[]⟩]
  | _ => [.string p0, .string p1, .string p2, .string p3]
theorem nums_inj {s t : ByteArray} (h : Vi.nums s = Vi.nums t) : s = t := by rw [← str_nums s, ← str_nums t, h]
theorem Ly.part {s p : ByteArray} {A B : List Int} (h : Vi.nums s = A ++ (Vi.nums p ++ B)) (n : Nat) (hn : A.length = n) : s.extract n (n + p.size) = p := by
  refine nums_inj ?_
  rw [nums_cut, h, List.drop_left' hn, List.take_left' (Vi.nums_len p)]
def LcutPost (v u : Value) (w : World) (x : Ending) (w' : World) : Prop := x = .returned (.tuple #[v, u, .int .i64 0]) ∧ Below w.heap.size w w'
set_option maxRecDepth 100000 in
set_option maxHeartbeats 4000000 in
theorem lcut_any (s p0 p1 p2 p3 : ByteArray) (a e c lo hi : Int) (hp0 : p0.size ≤ 100000) (hp1 : p1.size ≤ 100000) (hp2 : p2.size ≤ 100000) (hp3 : p3.size ≤ 100000)
    (h0 : 0 ≤ lo) (h1 : lo ≤ hi) (h2 : hi ≤ 26) (ha : 0 ≤ a ∧ a < 18446744073709551616) (he : 0 ≤ e ∧ e < 18446744073709551616) (hc : 0 ≤ c ∧ c < 18446744073709551616)
    (hs : Vi.nums s = Hd.bytes (Ly.secs p0 p1 p2 p3) a e c lo hi ++ (Vi.nums p0 ++ (Vi.nums p1 ++ (Vi.nums p2 ++ Vi.nums p3)))) (w : World) :
    Calls Tryz.prog 23 #[.string s] w (LcutPost (.agg #[.int .u64 (127), .int .u64 ((p0.size : Int)), .int .u64 (127 + (p0.size : Int)), .int .u64 ((p1.size : Int)), .int .u64 (127 + (p0.size : Int) + (p1.size : Int)), .int .u64 ((p2.size : Int)), .int .u64 (127 + (p0.size : Int) + (p1.size : Int) + (p2.size : Int)), .int .u64 ((p3.size : Int)), .int .u64 a, .int .u64 e, .int .u64 c, .bool true, .int .u8 1, .int .u8 1, .int .u8 0, .int .i64 lo, .int .i64 hi, .int .i64 (-1800000000), .int .i64 (-850511287), .int .i64 1800000000, .int .i64 850511287, .int .i64 lo, .int .i64 0, .int .i64 0]) (.agg #[.string p0, .string p1, .string p2, .string p3]) w) := by
  have hlen : s.size = 127 + p0.size + p1.size + p2.size + p3.size := by
    rw [← Vi.nums_len, hs]
    simp only [List.length_append, Vi.nums_len]
    rw [Hd.bytes_len (S := Ly.secs p0 p1 p2 p3) rfl a e c lo hi]
    omega
  have hbl0 : (Hd.bytes (Ly.secs p0 p1 p2 p3) a e c lo hi).length = 127 := Hd.bytes_len (S := Ly.secs p0 p1 p2 p3) rfl a e c lo hi
  have HX0 : Hid (s.extract 127 (127 + p0.size) = p0) := Lib.hid (Ly.part hs 127 hbl0)
  have HX1 : Hid (s.extract (127 + p0.size) (127 + p0.size + p1.size) = p1) := Lib.hid (Ly.part (A := Hd.bytes (Ly.secs p0 p1 p2 p3) a e c lo hi ++ Vi.nums p0) (by rw [hs, List.append_assoc]) _ (by rw [List.length_append, hbl0, Vi.nums_len]))
  have HX2 : Hid (s.extract (127 + p0.size + p1.size) (127 + p0.size + p1.size + p2.size) = p2) := Lib.hid (Ly.part (A := (Hd.bytes (Ly.secs p0 p1 p2 p3) a e c lo hi ++ Vi.nums p0) ++ Vi.nums p1) (B := Vi.nums p3) (by rw [hs]; simp only [List.append_assoc]) _ (by rw [List.length_append, List.length_append, hbl0, Vi.nums_len, Vi.nums_len]))
  have HX3 : Hid (s.extract (127 + p0.size + p1.size + p2.size) (127 + p0.size + p1.size + p2.size + p3.size) = p3) := Lib.hid (Ly.part (A := ((Hd.bytes (Ly.secs p0 p1 p2 p3) a e c lo hi ++ Vi.nums p0) ++ Vi.nums p1) ++ Vi.nums p2) (B := []) (by rw [hs]; simp only [List.append_assoc, List.append_nil]) _ (by rw [List.length_append, List.length_append, List.length_append, hbl0, Vi.nums_len, Vi.nums_len, Vi.nums_len]))
  have HD := Lib.hid (hdec_any 127 (p0.size : Int) (127 + (p0.size : Int)) (p1.size : Int) (127 + (p0.size : Int) + (p1.size : Int)) (p2.size : Int) (127 + (p0.size : Int) + (p1.size : Int) + (p2.size : Int)) (p3.size : Int) a e c lo hi (by omega) (by omega) (by omega) (by omega) h0 h1 h2 ha he hc s _ hs (by omega))
  have HLEN := Lib.hid hlen
  have hsz : s.size ≤ 1000000 := by omega
  clear hs hbl0 h0 h1 h2 ha he hc hlen
  have i0 : ∀ w, (Instr.index 120 (.agg #[.int .u64 (127), .int .u64 ((p0.size : Int)), .int .u64 (127 + (p0.size : Int)), .int .u64 ((p1.size : Int)), .int .u64 (127 + (p0.size : Int) + (p1.size : Int)), .int .u64 ((p2.size : Int)), .int .u64 (127 + (p0.size : Int) + (p1.size : Int) + (p2.size : Int)), .int .u64 ((p3.size : Int))]) (.int .i64 0)).run Tryz.prog w = .ok (.agg #[.int .u64 (127), .int .u64 ((p0.size : Int))]) w := fun _ => by rfl
  have i1 : ∀ w, (Instr.index 120 (.agg #[.int .u64 (127), .int .u64 ((p0.size : Int)), .int .u64 (127 + (p0.size : Int)), .int .u64 ((p1.size : Int)), .int .u64 (127 + (p0.size : Int) + (p1.size : Int)), .int .u64 ((p2.size : Int)), .int .u64 (127 + (p0.size : Int) + (p1.size : Int) + (p2.size : Int)), .int .u64 ((p3.size : Int))]) (.int .i64 1)).run Tryz.prog w = .ok (.agg #[.int .u64 (127 + (p0.size : Int)), .int .u64 ((p1.size : Int))]) w := fun _ => by rfl
  have i2 : ∀ w, (Instr.index 120 (.agg #[.int .u64 (127), .int .u64 ((p0.size : Int)), .int .u64 (127 + (p0.size : Int)), .int .u64 ((p1.size : Int)), .int .u64 (127 + (p0.size : Int) + (p1.size : Int)), .int .u64 ((p2.size : Int)), .int .u64 (127 + (p0.size : Int) + (p1.size : Int) + (p2.size : Int)), .int .u64 ((p3.size : Int))]) (.int .i64 2)).run Tryz.prog w = .ok (.agg #[.int .u64 (127 + (p0.size : Int) + (p1.size : Int)), .int .u64 ((p2.size : Int))]) w := fun _ => by rfl
  have i3 : ∀ w, (Instr.index 120 (.agg #[.int .u64 (127), .int .u64 ((p0.size : Int)), .int .u64 (127 + (p0.size : Int)), .int .u64 ((p1.size : Int)), .int .u64 (127 + (p0.size : Int) + (p1.size : Int)), .int .u64 ((p2.size : Int)), .int .u64 (127 + (p0.size : Int) + (p1.size : Int) + (p2.size : Int)), .int .u64 ((p3.size : Int))]) (.int .i64 3)).run Tryz.prog w = .ok (.agg #[.int .u64 (127 + (p0.size : Int) + (p1.size : Int) + (p2.size : Int)), .int .u64 ((p3.size : Int))]) w := fun _ => by rfl
  go_enter Tryz.func23, Tryz.ntmps23
  go_wp2_with fail
  refine (HD.out _).mono ?_; rintro x w1 ⟨rfl, hb1⟩
  obtain ⟨hA1, hB1, hz1, hz1', hw1⟩ := blk_two hb1
  have HA1 := Lib.hid hA1
  have HB1 := Lib.hid hB1
  clear hb1 hA1 hB1
  go_wp2_with (refine wpList_store_row rfl 65 (.tmp 5) (.tmp 13) rfl w1.heap.size #[.int .u64 (127), .int .u64 ((p0.size : Int)), .int .u64 (127 + (p0.size : Int)), .int .u64 ((p1.size : Int)), .int .u64 (127 + (p0.size : Int) + (p1.size : Int)), .int .u64 ((p2.size : Int)), .int .u64 (127 + (p0.size : Int) + (p1.size : Int) + (p2.size : Int)), .int .u64 ((p3.size : Int)), .int .u64 a, .int .u64 e, .int .u64 c, .bool true, .int .u8 1, .int .u8 1, .int .u8 0, .int .i64 lo, .int .i64 hi, .int .i64 (-1800000000), .int .i64 (-850511287), .int .i64 1800000000, .int .i64 850511287, .int .i64 lo, .int .i64 0, .int .i64 0] rfl rfl _ _ (heap_alloc_new w1 _) (by kernel_rfl) rfl (by kernel_rfl) ?_; rw [World.setRow_alloc_new])
  go_loopw [8, 9, 29] (fun _ _ ci wr => ∃ k : Nat, k ≤ 4 ∧ ci = .int .i64 k ∧ Hid (wr.heap[w1.heap.size + 1]? = some (.cells (Ly.pt p0 p1 p2 p3 k).toArray 67 (0, 0))) ∧ Hid (wr.heap[w1.heap.size]? = some (.cells #[.int .u64 (127), .int .u64 ((p0.size : Int)), .int .u64 (127 + (p0.size : Int)), .int .u64 ((p1.size : Int)), .int .u64 (127 + (p0.size : Int) + (p1.size : Int)), .int .u64 ((p2.size : Int)), .int .u64 (127 + (p0.size : Int) + (p1.size : Int) + (p2.size : Int)), .int .u64 ((p3.size : Int)), .int .u64 a, .int .u64 e, .int .u64 c, .bool true, .int .u8 1, .int .u8 1, .int .u8 0, .int .i64 lo, .int .i64 hi, .int .i64 (-1800000000), .int .i64 (-850511287), .int .i64 1800000000, .int .i64 850511287, .int .i64 lo, .int .i64 0, .int .i64 0] 65 (0, 0))) ∧ Hid (wr.heap[w.heap.size]? = some (.cells #[.int .u64 0, .int .u64 0, .int .u64 0, .int .u64 0, .int .u64 0, .int .u64 0, .int .u64 0, .int .u64 0, .int .u64 0, .int .u64 0, .int .u64 0, .bool false, .int .u8 0, .int .u8 0, .int .u8 0, .int .i64 0, .int .i64 0, .int .i64 0, .int .i64 0, .int .i64 0, .int .i64 0, .int .i64 0, .int .i64 0, .int .i64 0] 65 (0, 0))) ∧ Hid (wr.heap[w.heap.size + 1]? = some (.cells #[.string ⟨#[]⟩, .string ⟨#[]⟩, .string ⟨#[]⟩, .string ⟨#[]⟩] 67 (0, 0))) ∧ Below w.heap.size w wr) (fun _ _ ci _ => 4 - (intOf ci).toNat)
  case atStart => exact ⟨0, by omega, rfl, Lib.hid (heap_at (by simp)), Lib.hid (blk_alloc (heap_alloc_new w1 _) _), Lib.hid (blk_alloc (blk_alloc HA1.out _) _), Lib.hid (blk_alloc (blk_alloc HB1.out _) _), (by repeat (first | with_reducible exact Below.refl _ _ | with_reducible assumption | with_reducible refine Below.setCell ?_ (by first | (simp; done) | (simp; omega) | omega) _ | with_reducible refine Below.alloc ?_ (by first | exact Nat.le_refl _ | (simp; done) | (simp; omega) | omega) _ | with_reducible refine Below.drew ?_))⟩
  case round =>
    obtain ⟨k, hk, rfl, HP, HH, H0, H1, hbl⟩ := hrel
    have hzr := blk_lt HP.out
    rcases (show k = 0 ∨ k = 1 ∨ k = 2 ∨ k = 3 ∨ k = 4 by omega) with rfl | rfl | rfl | rfl | rfl
    · go_wp2_with fail
      refine (send_any (127) ((p0.size : Int)) (by omega) (by omega) (by omega) _).mono ?_; rintro x w2 ⟨rfl, hb2⟩
      obtain ⟨hA2, hz2, hbb2⟩ := blk_one hb2
      have HA2 := Lib.hid hA2
      have HP2 := Lib.hid (blk_keep2 hbb2 HP.out)
      have HQ2 := Lib.hid (blk_keep2 hbb2 H0.out)
      have HR2 := Lib.hid (blk_keep2 hbb2 H1.out)
      have HS2 := Lib.hid (blk_keep2 hbb2 HH.out)
      have hw2 := bthen hbl hbb2
      have hx : ¬ (s.size : Int) < 127 + (p0.size : Int) := by have := HLEN.out; omega
      have c0 : w2.cell? ⟨wr.heap.size, 0, none⟩ = some (.int .u64 (127)) := cell_of_row w2 _ 0 _ _ _ HA2.out
      have c1 : w2.cell? ⟨wr.heap.size, 1, none⟩ = some (.int .u64 ((p0.size : Int))) := cell_of_row w2 _ 1 _ _ _ HA2.out
      clear hb2 hA2
      go_wp2_with fail
      refine wp_region_held_drew (S := (fun w' => w'.cell? ⟨wr.heap.size, 0, none⟩ = some (.int .u64 (127)) ∧ w'.cell? ⟨wr.heap.size, 1, none⟩ = some (.int .u64 ((p0.size : Int))))) (by kernel_rfl) (by (try dsimp only); exact ⟨c0, c1⟩) (fun hHeld => ?_)
      simp only [List.size_toArray, List.length_cons, List.length_nil, Nat.zero_add, Nat.reduceAdd]
      refine held_take (i := 0) (v := ?_) rfl (by kernel_rfl) (by kernel_rfl) (by kernel_rfl) (fun _ _ _ h => h) (by rfl) ?_ (by assumption) ?_
      rotate_left
      · intro w hSw
        (try dsimp only at hSw)
        go_simp
        try with_reducible rfl
      try simp only [Act.put, List.setIfInBounds_toArray, List.set_cons_zero, List.set_cons_succ]
      refine held_take (i := 1) (v := ?_) rfl (by kernel_rfl) (by kernel_rfl) (by kernel_rfl) (fun _ _ _ h => h) (by rfl) ?_ (by assumption) ?_
      rotate_left
      · intro w hSw
        (try dsimp only at hSw)
        go_simp
        try with_reducible rfl
      try simp only [Act.put, List.setIfInBounds_toArray, List.set_cons_zero, List.set_cons_succ]
      refine held_take (i := 2) (v := ?_) rfl (by kernel_rfl) (by kernel_rfl) (by kernel_rfl) (fun _ _ _ h => h) (by rfl) ?_ (by assumption) ?_
      rotate_left
      · intro w hSw
        (try dsimp only at hSw)
        go_simp
        try with_reducible rfl
      try simp only [Act.put, List.setIfInBounds_toArray, List.set_cons_zero, List.set_cons_succ]
      refine held_take (i := 3) (v := ?_) rfl (by kernel_rfl) (by kernel_rfl) (by kernel_rfl) (fun _ _ _ h => h) (by rfl) ?_ (by assumption) ?_
      rotate_left
      · intro w hSw
        (try dsimp only at hSw)
        go_simp
        try with_reducible rfl
      try simp only [Act.put, List.setIfInBounds_toArray, List.set_cons_zero, List.set_cons_succ]
      refine held_take (i := 4) (v := ?_) rfl (by kernel_rfl) (by kernel_rfl) (by kernel_rfl) (fun _ _ _ h => h) (by rfl) ?_ (by assumption) ?_
      rotate_left
      · intro w hSw
        (try dsimp only at hSw)
        go_simp
        try with_reducible rfl
      try simp only [Act.put, List.setIfInBounds_toArray, List.set_cons_zero, List.set_cons_succ]
      refine held_call (i := 5) (by kernel_rfl) rfl (fun K hK => ?_)
      go_simp
      refine (send_any (127) ((p0.size : Int)) (by omega) (by omega) (by omega) _).mono ?_
      rintro x w3 ⟨rfl, hb3⟩
      have HA3 := Lib.hid (blk_keep2 hb3 HA2.out)
      have HP3 := Lib.hid (blk_keep2 hb3 HP2.out)
      have HQ3 := Lib.hid (blk_keep2 hb3 HQ2.out)
      have HR3 := Lib.hid (blk_keep2 hb3 HR2.out)
      have HS3 := Lib.hid (blk_keep2 hb3 HS2.out)
      have hw3 := bthen (Below.drew hw2) hb3
      clear hb3 c0 c1
      have c0 : w3.cell? ⟨wr.heap.size, 0, none⟩ = some (.int .u64 (127)) := cell_of_row w3 _ 0 _ _ _ HA3.out
      have c1 : w3.cell? ⟨wr.heap.size, 1, none⟩ = some (.int .u64 ((p0.size : Int))) := cell_of_row w3 _ 1 _ _ _ HA3.out
      refine hK.out _ _ (by (try dsimp only); exact ⟨c0, c1⟩) (fun hHeld => ?_)
      clear hK K
      try simp only [Act.put, List.setIfInBounds_toArray, List.set_cons_zero, List.set_cons_succ]
      have d0 : w3.cell? ⟨w1.heap.size + 1, 0, none⟩ = some (.string ⟨#[]⟩) := cell_of_row w3 _ 0 _ _ _ HP3.out
      have g0 : w3.frozen? ⟨w1.heap.size + 1, 0, none⟩ = false := by simp [World.frozen?, HP3.out]
      have z0 : 0 ≤ 127 + (p0.size : Int) := by omega
      have z1 : 127 ≤ 127 + (p0.size : Int) := by omega
      have tT : (127 + (p0.size : Int)).toNat = 127 + p0.size := by omega
      have hX := HX0.out
      have hx := hx
      refine held_take (i := 6) (v := ?_) rfl (by kernel_rfl) (by kernel_rfl) (by kernel_rfl) (fun _ _ _ h => h) (by rfl) ?_ (by assumption) ?_
      rotate_left
      · intro w hSw
        (try dsimp only at hSw)
        go_simp
        try with_reducible rfl
      try simp only [Act.put, List.setIfInBounds_toArray, List.set_cons_zero, List.set_cons_succ]
      refine held_take (i := 7) (v := ?_) rfl (by kernel_rfl) (by kernel_rfl) (by kernel_rfl) (fun _ _ _ h => h) (by rfl) ?_ (by assumption) ?_
      rotate_left
      · intro w hSw
        (try dsimp only at hSw)
        go_simp
        try with_reducible rfl
      try simp only [Act.put, List.setIfInBounds_toArray, List.set_cons_zero, List.set_cons_succ]
      clear z0 z1 tT hX
      refine held_call (i := 8) (by kernel_rfl) rfl (fun K hK => ?_)
      go_simp
      skip
      refine hK.out _ _ (by (try dsimp only); exact ⟨cell_of_row _ _ 0 _ _ _ (set_far (g := w1.heap.size + 1) (i := 0) HA3.out (by omega)), cell_of_row _ _ 1 _ _ _ (set_far (g := w1.heap.size + 1) (i := 0) HA3.out (by omega))⟩) (fun hHeld => ?_)
      clear hK K
      try simp only [Act.put, List.setIfInBounds_toArray, List.set_cons_zero, List.set_cons_succ]
      refine wpAnyH_done (by kernel_rfl) ?_ _
      clear c0 c1 d0 g0
      go_wp2_with fail
      exact ⟨⟨1, by omega, rfl, Lib.hid ((set_blk HP3.out).trans (by kernel_rfl)), Lib.hid (set_far HS3.out (by omega)), Lib.hid (set_far HQ3.out (by omega)), Lib.hid (set_far HR3.out (by omega)), below_set hw3 (by omega) _⟩, by simp [intOf]⟩
    · go_wp2_with fail
      refine (send_any (127 + (p0.size : Int)) ((p1.size : Int)) (by omega) (by omega) (by omega) _).mono ?_; rintro x w2 ⟨rfl, hb2⟩
      obtain ⟨hA2, hz2, hbb2⟩ := blk_one hb2
      have HA2 := Lib.hid hA2
      have HP2 := Lib.hid (blk_keep2 hbb2 HP.out)
      have HQ2 := Lib.hid (blk_keep2 hbb2 H0.out)
      have HR2 := Lib.hid (blk_keep2 hbb2 H1.out)
      have HS2 := Lib.hid (blk_keep2 hbb2 HH.out)
      have hw2 := bthen hbl hbb2
      have hx : ¬ (s.size : Int) < 127 + (p0.size : Int) + (p1.size : Int) := by have := HLEN.out; omega
      have c0 : w2.cell? ⟨wr.heap.size, 0, none⟩ = some (.int .u64 (127 + (p0.size : Int))) := cell_of_row w2 _ 0 _ _ _ HA2.out
      have c1 : w2.cell? ⟨wr.heap.size, 1, none⟩ = some (.int .u64 ((p1.size : Int))) := cell_of_row w2 _ 1 _ _ _ HA2.out
      clear hb2 hA2
      go_wp2_with fail
      refine wp_region_held_drew (S := (fun w' => w'.cell? ⟨wr.heap.size, 0, none⟩ = some (.int .u64 (127 + (p0.size : Int))) ∧ w'.cell? ⟨wr.heap.size, 1, none⟩ = some (.int .u64 ((p1.size : Int))))) (by kernel_rfl) (by (try dsimp only); exact ⟨c0, c1⟩) (fun hHeld => ?_)
      simp only [List.size_toArray, List.length_cons, List.length_nil, Nat.zero_add, Nat.reduceAdd]
      refine held_take (i := 0) (v := ?_) rfl (by kernel_rfl) (by kernel_rfl) (by kernel_rfl) (fun _ _ _ h => h) (by rfl) ?_ (by assumption) ?_
      rotate_left
      · intro w hSw
        (try dsimp only at hSw)
        go_simp
        try with_reducible rfl
      try simp only [Act.put, List.setIfInBounds_toArray, List.set_cons_zero, List.set_cons_succ]
      refine held_take (i := 1) (v := ?_) rfl (by kernel_rfl) (by kernel_rfl) (by kernel_rfl) (fun _ _ _ h => h) (by rfl) ?_ (by assumption) ?_
      rotate_left
      · intro w hSw
        (try dsimp only at hSw)
        go_simp
        try with_reducible rfl
      try simp only [Act.put, List.setIfInBounds_toArray, List.set_cons_zero, List.set_cons_succ]
      refine held_take (i := 2) (v := ?_) rfl (by kernel_rfl) (by kernel_rfl) (by kernel_rfl) (fun _ _ _ h => h) (by rfl) ?_ (by assumption) ?_
      rotate_left
      · intro w hSw
        (try dsimp only at hSw)
        go_simp
        try with_reducible rfl
      try simp only [Act.put, List.setIfInBounds_toArray, List.set_cons_zero, List.set_cons_succ]
      refine held_take (i := 3) (v := ?_) rfl (by kernel_rfl) (by kernel_rfl) (by kernel_rfl) (fun _ _ _ h => h) (by rfl) ?_ (by assumption) ?_
      rotate_left
      · intro w hSw
        (try dsimp only at hSw)
        go_simp
        try with_reducible rfl
      try simp only [Act.put, List.setIfInBounds_toArray, List.set_cons_zero, List.set_cons_succ]
      refine held_take (i := 4) (v := ?_) rfl (by kernel_rfl) (by kernel_rfl) (by kernel_rfl) (fun _ _ _ h => h) (by rfl) ?_ (by assumption) ?_
      rotate_left
      · intro w hSw
        (try dsimp only at hSw)
        go_simp
        try with_reducible rfl
      try simp only [Act.put, List.setIfInBounds_toArray, List.set_cons_zero, List.set_cons_succ]
      refine held_call (i := 5) (by kernel_rfl) rfl (fun K hK => ?_)
      go_simp
      refine (send_any (127 + (p0.size : Int)) ((p1.size : Int)) (by omega) (by omega) (by omega) _).mono ?_
      rintro x w3 ⟨rfl, hb3⟩
      have HA3 := Lib.hid (blk_keep2 hb3 HA2.out)
      have HP3 := Lib.hid (blk_keep2 hb3 HP2.out)
      have HQ3 := Lib.hid (blk_keep2 hb3 HQ2.out)
      have HR3 := Lib.hid (blk_keep2 hb3 HR2.out)
      have HS3 := Lib.hid (blk_keep2 hb3 HS2.out)
      have hw3 := bthen (Below.drew hw2) hb3
      clear hb3 c0 c1
      have c0 : w3.cell? ⟨wr.heap.size, 0, none⟩ = some (.int .u64 (127 + (p0.size : Int))) := cell_of_row w3 _ 0 _ _ _ HA3.out
      have c1 : w3.cell? ⟨wr.heap.size, 1, none⟩ = some (.int .u64 ((p1.size : Int))) := cell_of_row w3 _ 1 _ _ _ HA3.out
      refine hK.out _ _ (by (try dsimp only); exact ⟨c0, c1⟩) (fun hHeld => ?_)
      clear hK K
      try simp only [Act.put, List.setIfInBounds_toArray, List.set_cons_zero, List.set_cons_succ]
      have d0 : w3.cell? ⟨w1.heap.size + 1, 1, none⟩ = some (.string ⟨#[]⟩) := cell_of_row w3 _ 1 _ _ _ HP3.out
      have g0 : w3.frozen? ⟨w1.heap.size + 1, 1, none⟩ = false := by simp [World.frozen?, HP3.out]
      have z0 : 0 ≤ 127 + (p0.size : Int) + (p1.size : Int) := by omega
      have z1 : 127 + (p0.size : Int) ≤ 127 + (p0.size : Int) + (p1.size : Int) := by omega
      have z2 : 0 ≤ 127 + (p0.size : Int) := by omega
      have tF : (127 + (p0.size : Int)).toNat = 127 + p0.size := by omega
      have tT : (127 + (p0.size : Int) + (p1.size : Int)).toNat = 127 + p0.size + p1.size := by omega
      have hX := HX1.out
      have hx := hx
      refine held_take (i := 6) (v := ?_) rfl (by kernel_rfl) (by kernel_rfl) (by kernel_rfl) (fun _ _ _ h => h) (by rfl) ?_ (by assumption) ?_
      rotate_left
      · intro w hSw
        (try dsimp only at hSw)
        go_simp
        try with_reducible rfl
      try simp only [Act.put, List.setIfInBounds_toArray, List.set_cons_zero, List.set_cons_succ]
      refine held_take (i := 7) (v := ?_) rfl (by kernel_rfl) (by kernel_rfl) (by kernel_rfl) (fun _ _ _ h => h) (by rfl) ?_ (by assumption) ?_
      rotate_left
      · intro w hSw
        (try dsimp only at hSw)
        go_simp
        try with_reducible rfl
      try simp only [Act.put, List.setIfInBounds_toArray, List.set_cons_zero, List.set_cons_succ]
      clear z0 z1 z2 tT hX tF
      refine held_call (i := 8) (by kernel_rfl) rfl (fun K hK => ?_)
      go_simp
      skip
      refine hK.out _ _ (by (try dsimp only); exact ⟨cell_of_row _ _ 0 _ _ _ (set_far (g := w1.heap.size + 1) (i := 1) HA3.out (by omega)), cell_of_row _ _ 1 _ _ _ (set_far (g := w1.heap.size + 1) (i := 1) HA3.out (by omega))⟩) (fun hHeld => ?_)
      clear hK K
      try simp only [Act.put, List.setIfInBounds_toArray, List.set_cons_zero, List.set_cons_succ]
      refine wpAnyH_done (by kernel_rfl) ?_ _
      clear c0 c1 d0 g0
      go_wp2_with fail
      exact ⟨⟨2, by omega, rfl, Lib.hid ((set_blk HP3.out).trans (by kernel_rfl)), Lib.hid (set_far HS3.out (by omega)), Lib.hid (set_far HQ3.out (by omega)), Lib.hid (set_far HR3.out (by omega)), below_set hw3 (by omega) _⟩, by simp [intOf]⟩
    · go_wp2_with fail
      refine (send_any (127 + (p0.size : Int) + (p1.size : Int)) ((p2.size : Int)) (by omega) (by omega) (by omega) _).mono ?_; rintro x w2 ⟨rfl, hb2⟩
      obtain ⟨hA2, hz2, hbb2⟩ := blk_one hb2
      have HA2 := Lib.hid hA2
      have HP2 := Lib.hid (blk_keep2 hbb2 HP.out)
      have HQ2 := Lib.hid (blk_keep2 hbb2 H0.out)
      have HR2 := Lib.hid (blk_keep2 hbb2 H1.out)
      have HS2 := Lib.hid (blk_keep2 hbb2 HH.out)
      have hw2 := bthen hbl hbb2
      have hx : ¬ (s.size : Int) < 127 + (p0.size : Int) + (p1.size : Int) + (p2.size : Int) := by have := HLEN.out; omega
      have c0 : w2.cell? ⟨wr.heap.size, 0, none⟩ = some (.int .u64 (127 + (p0.size : Int) + (p1.size : Int))) := cell_of_row w2 _ 0 _ _ _ HA2.out
      have c1 : w2.cell? ⟨wr.heap.size, 1, none⟩ = some (.int .u64 ((p2.size : Int))) := cell_of_row w2 _ 1 _ _ _ HA2.out
      clear hb2 hA2
      go_wp2_with fail
      refine wp_region_held_drew (S := (fun w' => w'.cell? ⟨wr.heap.size, 0, none⟩ = some (.int .u64 (127 + (p0.size : Int) + (p1.size : Int))) ∧ w'.cell? ⟨wr.heap.size, 1, none⟩ = some (.int .u64 ((p2.size : Int))))) (by kernel_rfl) (by (try dsimp only); exact ⟨c0, c1⟩) (fun hHeld => ?_)
      simp only [List.size_toArray, List.length_cons, List.length_nil, Nat.zero_add, Nat.reduceAdd]
      refine held_take (i := 0) (v := ?_) rfl (by kernel_rfl) (by kernel_rfl) (by kernel_rfl) (fun _ _ _ h => h) (by rfl) ?_ (by assumption) ?_
      rotate_left
      · intro w hSw
        (try dsimp only at hSw)
        go_simp
        try with_reducible rfl
      try simp only [Act.put, List.setIfInBounds_toArray, List.set_cons_zero, List.set_cons_succ]
      refine held_take (i := 1) (v := ?_) rfl (by kernel_rfl) (by kernel_rfl) (by kernel_rfl) (fun _ _ _ h => h) (by rfl) ?_ (by assumption) ?_
      rotate_left
      · intro w hSw
        (try dsimp only at hSw)
        go_simp
        try with_reducible rfl
      try simp only [Act.put, List.setIfInBounds_toArray, List.set_cons_zero, List.set_cons_succ]
      refine held_take (i := 2) (v := ?_) rfl (by kernel_rfl) (by kernel_rfl) (by kernel_rfl) (fun _ _ _ h => h) (by rfl) ?_ (by assumption) ?_
      rotate_left
      · intro w hSw
        (try dsimp only at hSw)
        go_simp
        try with_reducible rfl
      try simp only [Act.put, List.setIfInBounds_toArray, List.set_cons_zero, List.set_cons_succ]
      refine held_take (i := 3) (v := ?_) rfl (by kernel_rfl) (by kernel_rfl) (by kernel_rfl) (fun _ _ _ h => h) (by rfl) ?_ (by assumption) ?_
      rotate_left
      · intro w hSw
        (try dsimp only at hSw)
        go_simp
        try with_reducible rfl
      try simp only [Act.put, List.setIfInBounds_toArray, List.set_cons_zero, List.set_cons_succ]
      refine held_take (i := 4) (v := ?_) rfl (by kernel_rfl) (by kernel_rfl) (by kernel_rfl) (fun _ _ _ h => h) (by rfl) ?_ (by assumption) ?_
      rotate_left
      · intro w hSw
        (try dsimp only at hSw)
        go_simp
        try with_reducible rfl
      try simp only [Act.put, List.setIfInBounds_toArray, List.set_cons_zero, List.set_cons_succ]
      refine held_call (i := 5) (by kernel_rfl) rfl (fun K hK => ?_)
      go_simp
      refine (send_any (127 + (p0.size : Int) + (p1.size : Int)) ((p2.size : Int)) (by omega) (by omega) (by omega) _).mono ?_
      rintro x w3 ⟨rfl, hb3⟩
      have HA3 := Lib.hid (blk_keep2 hb3 HA2.out)
      have HP3 := Lib.hid (blk_keep2 hb3 HP2.out)
      have HQ3 := Lib.hid (blk_keep2 hb3 HQ2.out)
      have HR3 := Lib.hid (blk_keep2 hb3 HR2.out)
      have HS3 := Lib.hid (blk_keep2 hb3 HS2.out)
      have hw3 := bthen (Below.drew hw2) hb3
      clear hb3 c0 c1
      have c0 : w3.cell? ⟨wr.heap.size, 0, none⟩ = some (.int .u64 (127 + (p0.size : Int) + (p1.size : Int))) := cell_of_row w3 _ 0 _ _ _ HA3.out
      have c1 : w3.cell? ⟨wr.heap.size, 1, none⟩ = some (.int .u64 ((p2.size : Int))) := cell_of_row w3 _ 1 _ _ _ HA3.out
      refine hK.out _ _ (by (try dsimp only); exact ⟨c0, c1⟩) (fun hHeld => ?_)
      clear hK K
      try simp only [Act.put, List.setIfInBounds_toArray, List.set_cons_zero, List.set_cons_succ]
      have d0 : w3.cell? ⟨w1.heap.size + 1, 2, none⟩ = some (.string ⟨#[]⟩) := cell_of_row w3 _ 2 _ _ _ HP3.out
      have g0 : w3.frozen? ⟨w1.heap.size + 1, 2, none⟩ = false := by simp [World.frozen?, HP3.out]
      have z0 : 0 ≤ 127 + (p0.size : Int) + (p1.size : Int) + (p2.size : Int) := by omega
      have z1 : 127 + (p0.size : Int) + (p1.size : Int) ≤ 127 + (p0.size : Int) + (p1.size : Int) + (p2.size : Int) := by omega
      have z2 : 0 ≤ 127 + (p0.size : Int) + (p1.size : Int) := by omega
      have tF : (127 + (p0.size : Int) + (p1.size : Int)).toNat = 127 + p0.size + p1.size := by omega
      have tT : (127 + (p0.size : Int) + (p1.size : Int) + (p2.size : Int)).toNat = 127 + p0.size + p1.size + p2.size := by omega
      have hX := HX2.out
      have hx := hx
      refine held_take (i := 6) (v := ?_) rfl (by kernel_rfl) (by kernel_rfl) (by kernel_rfl) (fun _ _ _ h => h) (by rfl) ?_ (by assumption) ?_
      rotate_left
      · intro w hSw
        (try dsimp only at hSw)
        go_simp
        try with_reducible rfl
      try simp only [Act.put, List.setIfInBounds_toArray, List.set_cons_zero, List.set_cons_succ]
      refine held_take (i := 7) (v := ?_) rfl (by kernel_rfl) (by kernel_rfl) (by kernel_rfl) (fun _ _ _ h => h) (by rfl) ?_ (by assumption) ?_
      rotate_left
      · intro w hSw
        (try dsimp only at hSw)
        go_simp
        try with_reducible rfl
      try simp only [Act.put, List.setIfInBounds_toArray, List.set_cons_zero, List.set_cons_succ]
      clear z0 z1 z2 tT hX tF
      refine held_call (i := 8) (by kernel_rfl) rfl (fun K hK => ?_)
      go_simp
      skip
      refine hK.out _ _ (by (try dsimp only); exact ⟨cell_of_row _ _ 0 _ _ _ (set_far (g := w1.heap.size + 1) (i := 2) HA3.out (by omega)), cell_of_row _ _ 1 _ _ _ (set_far (g := w1.heap.size + 1) (i := 2) HA3.out (by omega))⟩) (fun hHeld => ?_)
      clear hK K
      try simp only [Act.put, List.setIfInBounds_toArray, List.set_cons_zero, List.set_cons_succ]
      refine wpAnyH_done (by kernel_rfl) ?_ _
      clear c0 c1 d0 g0
      go_wp2_with fail
      exact ⟨⟨3, by omega, rfl, Lib.hid ((set_blk HP3.out).trans (by kernel_rfl)), Lib.hid (set_far HS3.out (by omega)), Lib.hid (set_far HQ3.out (by omega)), Lib.hid (set_far HR3.out (by omega)), below_set hw3 (by omega) _⟩, by simp [intOf]⟩
    · go_wp2_with fail
      refine (send_any (127 + (p0.size : Int) + (p1.size : Int) + (p2.size : Int)) ((p3.size : Int)) (by omega) (by omega) (by omega) _).mono ?_; rintro x w2 ⟨rfl, hb2⟩
      obtain ⟨hA2, hz2, hbb2⟩ := blk_one hb2
      have HA2 := Lib.hid hA2
      have HP2 := Lib.hid (blk_keep2 hbb2 HP.out)
      have HQ2 := Lib.hid (blk_keep2 hbb2 H0.out)
      have HR2 := Lib.hid (blk_keep2 hbb2 H1.out)
      have HS2 := Lib.hid (blk_keep2 hbb2 HH.out)
      have hw2 := bthen hbl hbb2
      have hx : ¬ (s.size : Int) < 127 + (p0.size : Int) + (p1.size : Int) + (p2.size : Int) + (p3.size : Int) := by have := HLEN.out; omega
      have c0 : w2.cell? ⟨wr.heap.size, 0, none⟩ = some (.int .u64 (127 + (p0.size : Int) + (p1.size : Int) + (p2.size : Int))) := cell_of_row w2 _ 0 _ _ _ HA2.out
      have c1 : w2.cell? ⟨wr.heap.size, 1, none⟩ = some (.int .u64 ((p3.size : Int))) := cell_of_row w2 _ 1 _ _ _ HA2.out
      clear hb2 hA2
      go_wp2_with fail
      refine wp_region_held_drew (S := (fun w' => w'.cell? ⟨wr.heap.size, 0, none⟩ = some (.int .u64 (127 + (p0.size : Int) + (p1.size : Int) + (p2.size : Int))) ∧ w'.cell? ⟨wr.heap.size, 1, none⟩ = some (.int .u64 ((p3.size : Int))))) (by kernel_rfl) (by (try dsimp only); exact ⟨c0, c1⟩) (fun hHeld => ?_)
      simp only [List.size_toArray, List.length_cons, List.length_nil, Nat.zero_add, Nat.reduceAdd]
      refine held_take (i := 0) (v := ?_) rfl (by kernel_rfl) (by kernel_rfl) (by kernel_rfl) (fun _ _ _ h => h) (by rfl) ?_ (by assumption) ?_
      rotate_left
      · intro w hSw
        (try dsimp only at hSw)
        go_simp
        try with_reducible rfl
      try simp only [Act.put, List.setIfInBounds_toArray, List.set_cons_zero, List.set_cons_succ]
      refine held_take (i := 1) (v := ?_) rfl (by kernel_rfl) (by kernel_rfl) (by kernel_rfl) (fun _ _ _ h => h) (by rfl) ?_ (by assumption) ?_
      rotate_left
      · intro w hSw
        (try dsimp only at hSw)
        go_simp
        try with_reducible rfl
      try simp only [Act.put, List.setIfInBounds_toArray, List.set_cons_zero, List.set_cons_succ]
      refine held_take (i := 2) (v := ?_) rfl (by kernel_rfl) (by kernel_rfl) (by kernel_rfl) (fun _ _ _ h => h) (by rfl) ?_ (by assumption) ?_
      rotate_left
      · intro w hSw
        (try dsimp only at hSw)
        go_simp
        try with_reducible rfl
      try simp only [Act.put, List.setIfInBounds_toArray, List.set_cons_zero, List.set_cons_succ]
      refine held_take (i := 3) (v := ?_) rfl (by kernel_rfl) (by kernel_rfl) (by kernel_rfl) (fun _ _ _ h => h) (by rfl) ?_ (by assumption) ?_
      rotate_left
      · intro w hSw
        (try dsimp only at hSw)
        go_simp
        try with_reducible rfl
      try simp only [Act.put, List.setIfInBounds_toArray, List.set_cons_zero, List.set_cons_succ]
      refine held_take (i := 4) (v := ?_) rfl (by kernel_rfl) (by kernel_rfl) (by kernel_rfl) (fun _ _ _ h => h) (by rfl) ?_ (by assumption) ?_
      rotate_left
      · intro w hSw
        (try dsimp only at hSw)
        go_simp
        try with_reducible rfl
      try simp only [Act.put, List.setIfInBounds_toArray, List.set_cons_zero, List.set_cons_succ]
      refine held_call (i := 5) (by kernel_rfl) rfl (fun K hK => ?_)
      go_simp
      refine (send_any (127 + (p0.size : Int) + (p1.size : Int) + (p2.size : Int)) ((p3.size : Int)) (by omega) (by omega) (by omega) _).mono ?_
      rintro x w3 ⟨rfl, hb3⟩
      have HA3 := Lib.hid (blk_keep2 hb3 HA2.out)
      have HP3 := Lib.hid (blk_keep2 hb3 HP2.out)
      have HQ3 := Lib.hid (blk_keep2 hb3 HQ2.out)
      have HR3 := Lib.hid (blk_keep2 hb3 HR2.out)
      have HS3 := Lib.hid (blk_keep2 hb3 HS2.out)
      have hw3 := bthen (Below.drew hw2) hb3
      clear hb3 c0 c1
      have c0 : w3.cell? ⟨wr.heap.size, 0, none⟩ = some (.int .u64 (127 + (p0.size : Int) + (p1.size : Int) + (p2.size : Int))) := cell_of_row w3 _ 0 _ _ _ HA3.out
      have c1 : w3.cell? ⟨wr.heap.size, 1, none⟩ = some (.int .u64 ((p3.size : Int))) := cell_of_row w3 _ 1 _ _ _ HA3.out
      refine hK.out _ _ (by (try dsimp only); exact ⟨c0, c1⟩) (fun hHeld => ?_)
      clear hK K
      try simp only [Act.put, List.setIfInBounds_toArray, List.set_cons_zero, List.set_cons_succ]
      have d0 : w3.cell? ⟨w1.heap.size + 1, 3, none⟩ = some (.string ⟨#[]⟩) := cell_of_row w3 _ 3 _ _ _ HP3.out
      have g0 : w3.frozen? ⟨w1.heap.size + 1, 3, none⟩ = false := by simp [World.frozen?, HP3.out]
      have z0 : 0 ≤ 127 + (p0.size : Int) + (p1.size : Int) + (p2.size : Int) + (p3.size : Int) := by omega
      have z1 : 127 + (p0.size : Int) + (p1.size : Int) + (p2.size : Int) ≤ 127 + (p0.size : Int) + (p1.size : Int) + (p2.size : Int) + (p3.size : Int) := by omega
      have z2 : 0 ≤ 127 + (p0.size : Int) + (p1.size : Int) + (p2.size : Int) := by omega
      have tF : (127 + (p0.size : Int) + (p1.size : Int) + (p2.size : Int)).toNat = 127 + p0.size + p1.size + p2.size := by omega
      have tT : (127 + (p0.size : Int) + (p1.size : Int) + (p2.size : Int) + (p3.size : Int)).toNat = 127 + p0.size + p1.size + p2.size + p3.size := by omega
      have hX := HX3.out
      have hx := hx
      refine held_take (i := 6) (v := ?_) rfl (by kernel_rfl) (by kernel_rfl) (by kernel_rfl) (fun _ _ _ h => h) (by rfl) ?_ (by assumption) ?_
      rotate_left
      · intro w hSw
        (try dsimp only at hSw)
        go_simp
        try with_reducible rfl
      try simp only [Act.put, List.setIfInBounds_toArray, List.set_cons_zero, List.set_cons_succ]
      refine held_take (i := 7) (v := ?_) rfl (by kernel_rfl) (by kernel_rfl) (by kernel_rfl) (fun _ _ _ h => h) (by rfl) ?_ (by assumption) ?_
      rotate_left
      · intro w hSw
        (try dsimp only at hSw)
        go_simp
        try with_reducible rfl
      try simp only [Act.put, List.setIfInBounds_toArray, List.set_cons_zero, List.set_cons_succ]
      clear z0 z1 z2 tT hX tF
      refine held_call (i := 8) (by kernel_rfl) rfl (fun K hK => ?_)
      go_simp
      skip
      refine hK.out _ _ (by (try dsimp only); exact ⟨cell_of_row _ _ 0 _ _ _ (set_far (g := w1.heap.size + 1) (i := 3) HA3.out (by omega)), cell_of_row _ _ 1 _ _ _ (set_far (g := w1.heap.size + 1) (i := 3) HA3.out (by omega))⟩) (fun hHeld => ?_)
      clear hK K
      try simp only [Act.put, List.setIfInBounds_toArray, List.set_cons_zero, List.set_cons_succ]
      refine wpAnyH_done (by kernel_rfl) ?_ _
      clear c0 c1 d0 g0
      go_wp2_with fail
      exact ⟨⟨4, by omega, rfl, Lib.hid ((set_blk HP3.out).trans (by kernel_rfl)), Lib.hid (set_far HS3.out (by omega)), Lib.hid (set_far HQ3.out (by omega)), Lib.hid (set_far HR3.out (by omega)), below_set hw3 (by omega) _⟩, by simp [intOf]⟩
    · have HP4 : Hid (wr.heap[w1.heap.size + 1]? = some (.cells #[.string p0, .string p1, .string p2, .string p3] 67 (0, 0))) := Lib.hid HP.out
      go_upto_region 12 with (fail)
      refine wp_region_held_drew (S := (fun w' => w'.heap[w1.heap.size]? = some (.cells #[.int .u64 (127), .int .u64 ((p0.size : Int)), .int .u64 (127 + (p0.size : Int)), .int .u64 ((p1.size : Int)), .int .u64 (127 + (p0.size : Int) + (p1.size : Int)), .int .u64 ((p2.size : Int)), .int .u64 (127 + (p0.size : Int) + (p1.size : Int) + (p2.size : Int)), .int .u64 ((p3.size : Int)), .int .u64 a, .int .u64 e, .int .u64 c, .bool true, .int .u8 1, .int .u8 1, .int .u8 0, .int .i64 lo, .int .i64 hi, .int .i64 (-1800000000), .int .i64 (-850511287), .int .i64 1800000000, .int .i64 850511287, .int .i64 lo, .int .i64 0, .int .i64 0] 65 (0, 0)) ∧ w'.heap[w1.heap.size + 1]? = some (.cells #[.string p0, .string p1, .string p2, .string p3] 67 (0, 0)))) (by kernel_rfl) (by (try dsimp only); exact ⟨HH.out, HP4.out⟩) (fun hHeld => ?_)
      simp only [List.size_toArray, List.length_cons, List.length_nil, Nat.zero_add, Nat.reduceAdd]
      refine held_take (i := 0) (v := .agg #[.int .u64 (127), .int .u64 ((p0.size : Int)), .int .u64 (127 + (p0.size : Int)), .int .u64 ((p1.size : Int)), .int .u64 (127 + (p0.size : Int) + (p1.size : Int)), .int .u64 ((p2.size : Int)), .int .u64 (127 + (p0.size : Int) + (p1.size : Int) + (p2.size : Int)), .int .u64 ((p3.size : Int)), .int .u64 a, .int .u64 e, .int .u64 c, .bool true, .int .u8 1, .int .u8 1, .int .u8 0, .int .i64 lo, .int .i64 hi, .int .i64 (-1800000000), .int .i64 (-850511287), .int .i64 1800000000, .int .i64 850511287, .int .i64 lo, .int .i64 0, .int .i64 0]) rfl (by kernel_rfl) (by kernel_rfl) (by kernel_rfl) (fun _ _ _ h => h) (by rfl) (fun w hS => run_exec_load_row 65 (.tmp 5) rfl w1.heap.size rfl _ _ _ _ hS.1 Tryz.underlying65 rfl (by kernel_rfl)) (by assumption) ?_
      try simp only [Act.put, List.setIfInBounds_toArray, List.set_cons_zero, List.set_cons_succ]
      refine held_take (i := 1) (v := .agg #[.string p0, .string p1, .string p2, .string p3]) rfl (by kernel_rfl) (by kernel_rfl) (by kernel_rfl) (fun _ _ _ h => h) (by rfl) (fun w hS => run_exec_load_row 67 (.tmp 7) rfl (w1.heap.size + 1) rfl _ _ _ _ hS.2 Tryz.underlying67 rfl (by kernel_rfl)) (by assumption) ?_
      try simp only [Act.put, List.setIfInBounds_toArray, List.set_cons_zero, List.set_cons_succ]
      refine held_call (i := 2) (by kernel_rfl) rfl (fun K hK => ?_)
      rw [if_pos (by rfl)]
      refine wp_store_row 65 (.tmp 2) (.tmp 50) rfl w.heap.size #[.int .u64 (127), .int .u64 ((p0.size : Int)), .int .u64 (127 + (p0.size : Int)), .int .u64 ((p1.size : Int)), .int .u64 (127 + (p0.size : Int) + (p1.size : Int)), .int .u64 ((p2.size : Int)), .int .u64 (127 + (p0.size : Int) + (p1.size : Int) + (p2.size : Int)), .int .u64 ((p3.size : Int)), .int .u64 a, .int .u64 e, .int .u64 c, .bool true, .int .u8 1, .int .u8 1, .int .u8 0, .int .i64 lo, .int .i64 hi, .int .i64 (-1800000000), .int .i64 (-850511287), .int .i64 1800000000, .int .i64 850511287, .int .i64 lo, .int .i64 0, .int .i64 0] rfl rfl _ _ (show wr.drew.heap[w.heap.size]? = _ from H0.out) (by kernel_rfl) rfl (by kernel_rfl) ?_
      have HH5 := Lib.hid ((setRow_other wr.drew w.heap.size w1.heap.size #[.int .u64 (127), .int .u64 ((p0.size : Int)), .int .u64 (127 + (p0.size : Int)), .int .u64 ((p1.size : Int)), .int .u64 (127 + (p0.size : Int) + (p1.size : Int)), .int .u64 ((p2.size : Int)), .int .u64 (127 + (p0.size : Int) + (p1.size : Int) + (p2.size : Int)), .int .u64 ((p3.size : Int)), .int .u64 a, .int .u64 e, .int .u64 c, .bool true, .int .u8 1, .int .u8 1, .int .u8 0, .int .i64 lo, .int .i64 hi, .int .i64 (-1800000000), .int .i64 (-850511287), .int .i64 1800000000, .int .i64 850511287, .int .i64 lo, .int .i64 0, .int .i64 0] (by omega)).trans HH.out)
      have HP5 := Lib.hid ((setRow_other wr.drew w.heap.size (w1.heap.size + 1) #[.int .u64 (127), .int .u64 ((p0.size : Int)), .int .u64 (127 + (p0.size : Int)), .int .u64 ((p1.size : Int)), .int .u64 (127 + (p0.size : Int) + (p1.size : Int)), .int .u64 ((p2.size : Int)), .int .u64 (127 + (p0.size : Int) + (p1.size : Int) + (p2.size : Int)), .int .u64 ((p3.size : Int)), .int .u64 a, .int .u64 e, .int .u64 c, .bool true, .int .u8 1, .int .u8 1, .int .u8 0, .int .i64 lo, .int .i64 hi, .int .i64 (-1800000000), .int .i64 (-850511287), .int .i64 1800000000, .int .i64 850511287, .int .i64 lo, .int .i64 0, .int .i64 0] (by omega)).trans HP4.out)
      have HQ5 := Lib.hid ((setRow_other wr.drew w.heap.size (w.heap.size + 1) #[.int .u64 (127), .int .u64 ((p0.size : Int)), .int .u64 (127 + (p0.size : Int)), .int .u64 ((p1.size : Int)), .int .u64 (127 + (p0.size : Int) + (p1.size : Int)), .int .u64 ((p2.size : Int)), .int .u64 (127 + (p0.size : Int) + (p1.size : Int) + (p2.size : Int)), .int .u64 ((p3.size : Int)), .int .u64 a, .int .u64 e, .int .u64 c, .bool true, .int .u8 1, .int .u8 1, .int .u8 0, .int .i64 lo, .int .i64 hi, .int .i64 (-1800000000), .int .i64 (-850511287), .int .i64 1800000000, .int .i64 850511287, .int .i64 lo, .int .i64 0, .int .i64 0] (by omega)).trans H1.out)
      have HR5 := Lib.hid (setRow_heap wr.drew w.heap.size _ #[.int .u64 (127), .int .u64 ((p0.size : Int)), .int .u64 (127 + (p0.size : Int)), .int .u64 ((p1.size : Int)), .int .u64 (127 + (p0.size : Int) + (p1.size : Int)), .int .u64 ((p2.size : Int)), .int .u64 (127 + (p0.size : Int) + (p1.size : Int) + (p2.size : Int)), .int .u64 ((p3.size : Int)), .int .u64 a, .int .u64 e, .int .u64 c, .bool true, .int .u8 1, .int .u8 1, .int .u8 0, .int .i64 lo, .int .i64 hi, .int .i64 (-1800000000), .int .i64 (-850511287), .int .i64 1800000000, .int .i64 850511287, .int .i64 lo, .int .i64 0, .int .i64 0] _ _ H0.out)
      have hw5 := below_setRow (Below.drew hbl) (Nat.le_refl w.heap.size) #[.int .u64 (127), .int .u64 ((p0.size : Int)), .int .u64 (127 + (p0.size : Int)), .int .u64 ((p1.size : Int)), .int .u64 (127 + (p0.size : Int) + (p1.size : Int)), .int .u64 ((p2.size : Int)), .int .u64 (127 + (p0.size : Int) + (p1.size : Int) + (p2.size : Int)), .int .u64 ((p3.size : Int)), .int .u64 a, .int .u64 e, .int .u64 c, .bool true, .int .u8 1, .int .u8 1, .int .u8 0, .int .i64 lo, .int .i64 hi, .int .i64 (-1800000000), .int .i64 (-850511287), .int .i64 1800000000, .int .i64 850511287, .int .i64 lo, .int .i64 0, .int .i64 0]
      refine hK.out _ _ ⟨HH5.out, HP5.out⟩ (fun hHeld => ?_)
      clear hK K
      try simp only [Act.put]
      obtain ⟨w5, hw5e⟩ : ∃ w5, w5 = wr.drew.setRow w.heap.size #[.int .u64 (127), .int .u64 ((p0.size : Int)), .int .u64 (127 + (p0.size : Int)), .int .u64 ((p1.size : Int)), .int .u64 (127 + (p0.size : Int) + (p1.size : Int)), .int .u64 ((p2.size : Int)), .int .u64 (127 + (p0.size : Int) + (p1.size : Int) + (p2.size : Int)), .int .u64 ((p3.size : Int)), .int .u64 a, .int .u64 e, .int .u64 c, .bool true, .int .u8 1, .int .u8 1, .int .u8 0, .int .i64 lo, .int .i64 hi, .int .i64 (-1800000000), .int .i64 (-850511287), .int .i64 1800000000, .int .i64 850511287, .int .i64 lo, .int .i64 0, .int .i64 0] := ⟨_, rfl⟩
      rw [← hw5e] at HH5 HP5 HQ5 HR5 hw5 hHeld ⊢
      clear hw5e
      refine held_call (i := 3) (by kernel_rfl) rfl (fun K hK => ?_)
      rw [if_pos (by rfl)]
      refine wp_store_row 67 (.tmp 3) (.tmp 51) rfl (w.heap.size + 1) #[.string p0, .string p1, .string p2, .string p3] rfl rfl _ _ HQ5.out (by kernel_rfl) rfl (by kernel_rfl) ?_
      refine hK.out _ _ ⟨(setRow_other w5 (w.heap.size + 1) w1.heap.size #[.string p0, .string p1, .string p2, .string p3] (by omega)).trans HH5.out, (setRow_other w5 (w.heap.size + 1) (w1.heap.size + 1) #[.string p0, .string p1, .string p2, .string p3] (by omega)).trans HP5.out⟩ (fun hHeld => ?_)
      clear hK K
      try simp only [Act.put]
      refine held_take (i := 4) (v := ?_) rfl (by kernel_rfl) (by kernel_rfl) (by kernel_rfl) (fun _ _ _ h => h) (by rfl) ?_ (by assumption) ?_
      rotate_left
      · intro w hSw
        (try dsimp only at hSw)
        go_simp
        try with_reducible rfl
      try simp only [Act.put, List.setIfInBounds_toArray, List.set_cons_zero, List.set_cons_succ]
      refine wpAnyH_done (by kernel_rfl) ?_ _
      go_wp2_with fail
      exact bodyPost_ret (v := .tuple #[.agg #[.int .u64 (127), .int .u64 ((p0.size : Int)), .int .u64 (127 + (p0.size : Int)), .int .u64 ((p1.size : Int)), .int .u64 (127 + (p0.size : Int) + (p1.size : Int)), .int .u64 ((p2.size : Int)), .int .u64 (127 + (p0.size : Int) + (p1.size : Int) + (p2.size : Int)), .int .u64 ((p3.size : Int)), .int .u64 a, .int .u64 e, .int .u64 c, .bool true, .int .u8 1, .int .u8 1, .int .u8 0, .int .i64 lo, .int .i64 hi, .int .i64 (-1800000000), .int .i64 (-850511287), .int .i64 1800000000, .int .i64 850511287, .int .i64 lo, .int .i64 0, .int .i64 0], .agg #[.string p0, .string p1, .string p2, .string p3], .int .i64 0]) (results_row_row_tmp Tryz.results23 _ _ w.heap.size (w.heap.size + 1) _ _ _ _ _ _ _ _ _ rfl rfl rfl ((setRow_other w5 (w.heap.size + 1) w.heap.size #[.string p0, .string p1, .string p2, .string p3] (by omega)).trans HR5.out) (setRow_heap _ _ _ _ _ _ HQ5.out) Tryz.underlying65 rfl (by kernel_rfl) Tryz.underlying67 rfl (by kernel_rfl)) rfl ⟨rfl, below_setRow hw5 (by omega) _⟩
end Go.Proofs.YtlfahmdndlmhpaaGreatDoor
