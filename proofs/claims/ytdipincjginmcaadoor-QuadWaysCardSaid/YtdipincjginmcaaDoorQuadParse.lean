/- The walks of Parse, the program's and the document's. -/
import Derived.Test.YtdipincjginmcaaDoorQuadText
import Derived.Test.YtdipincjginmcaaDoorTileSame
import Derived.Lib.OthersKept
import Derived.Deep.LoopGhost
namespace Go.Proofs.YtdipincjginmcaaDoor
open Go.RowKit

theorem i64_or_nat (a b : Nat) (ha : a < 4611686018427387904) (hb : b < 4611686018427387904) : bits .or .i64 (a : Int) (b : Int) = ((a ||| b : Nat) : Int) := by
  have hx : a ||| b < 2 ^ 62 := Nat.or_lt_two_pow (by omega) (by omega)
  have h1 : (BitVec.ofInt 64 (a : Int)).toNat = a := by
    rw [BitVec.ofInt_natCast, BitVec.toNat_ofNat]; exact Nat.mod_eq_of_lt (by omega)
  have h2 : (BitVec.ofInt 64 (b : Int)).toNat = b := by
    rw [BitVec.ofInt_natCast, BitVec.toNat_ofNat]; exact Nat.mod_eq_of_lt (by omega)
  show IntKind.i64.wrap ((BitVec.ofInt 64 (a : Int) ||| BitVec.ofInt 64 (b : Int)).toNat : Int) = _
  rw [BitVec.toNat_or, h1, h2, IntKind.wrap_i64]
  omega
theorem i64_or_two (x e : Nat) (hx : x < 33554432) (he : e < 2) : bits .or .i64 ((x : Int) * 2) (e : Int) = ((2 * x + e : Nat) : Int) := by
  have h := i64_or_nat (x * 2) e (by omega) (by omega)
  rw [show ((x * 2 : Nat) : Int) = (x : Int) * 2 by omega] at h
  rw [h]
  have h2 := Nat.shiftLeft_add_eq_or_of_lt (show e < 2 ^ 1 by omega) x
  rw [Nat.shiftLeft_eq, Nat.pow_one] at h2
  rw [← h2]
  congr 1
  omega
theorem i64_and1s : bits .and .i64 0 1 = 0 ∧ bits .and .i64 1 1 = 1 ∧ bits .and .i64 2 1 = 0 ∧ bits .and .i64 3 1 = 1 := by decide +kernel
def ParseR (s : ByteArray) (e : Ending) : Prop := e = .returned (.tuple #[.agg #[.int .i64 (Qs.pz s), .int .i64 (Qs.px s), .int .i64 (Qs.py s)], .int .i64 (Qs.pc s)])
theorem ParseR.bad {s : ByteArray} {c : Int} (h : Qs.pc s = c) (h0 : c ≠ 0) : ParseR s (.returned (.tuple #[.agg #[.int .i64 0, .int .i64 0, .int .i64 0], .int .i64 c])) := by
  unfold ParseR Qs.pz Qs.px Qs.py
  rw [h, if_neg h0, if_neg h0, if_neg h0]
theorem ParseR.fine {s : ByteArray} {x y : Nat} (h : Qs.pc s = 0) (hp : Qk.pt (Qs.dg s) = (x, y)) : ParseR s (.returned (.tuple #[.agg #[.int .i64 (s.size : Int), .int .i64 (x : Int), .int .i64 (y : Int)], .int .i64 0])) := by
  unfold ParseR Qs.pz Qs.px Qs.py
  rw [h, if_pos rfl, if_pos rfl, if_pos rfl, hp]

set_option maxRecDepth 100000 in
set_option maxHeartbeats 2000000 in
theorem parse_bad (s : ByteArray) (hs : s.size ≤ maxLen) (w : World) (h : Qs.good s = false) :
    Calls Tryd.prog 11 #[.string s] w fun e w' => ParseR s e ∧ Below w.heap.size w w' := by
  have hpc : Qs.pc s = 4 := by unfold Qs.pc; rw [if_neg (by simp [h])]
  have HP := Lib.hid (ParseR.bad hpc (by omega))
  have hn : Lib.trimS s.data.toList [48, 49, 50, 51] ≠ [] := fun e => by rw [(Qs.trim_nil s).1 e] at h; cases h
  have HT := Lib.hid (fun w => Tryd.trim_digits s w (by unfold maxLen at hs; omega))
  obtain ⟨T, hT⟩ : ∃ T, T = Lib.trimS s.data.toList [48, 49, 50, 51] := ⟨_, rfl⟩
  rw [← hT] at hn HT
  have hie : T.isEmpty = false := by cases T with | nil => exact absurd rfl hn | cons a l => rfl
  clear hT h hpc hn
  unfold maxLen at hs
  go_enter Tryd.func11, Tryd.ntmps11
  go_wp2_with fail
  refine (HT.out _).mono ?_; rintro e w1 ⟨rfl, hb⟩
  have hw := (blk_one hb).2.2
  obtain ⟨⟨b0, b1, b2⟩, f0, f1, f2⟩ := blk_cells3 (blk_one hb).1
  clear hb
  go_wp2_with fail
  exact bodyPost_ret (v := .tuple #[.agg #[.int .i64 0, .int .i64 0, .int .i64 0], .int .i64 4]) (by simp [results, Tryd.results11, go_sem, b0, b1, b2]) rfl ⟨HP.out, (by repeat (first | with_reducible exact Below.refl _ _ | with_reducible assumption | with_reducible refine Below.setCell ?_ (by first | (simp; done) | omega | (simp; omega)) _))⟩

set_option maxRecDepth 100000 in
set_option maxHeartbeats 2000000 in
theorem parse_good (s : ByteArray) (hs : s.size ≤ maxLen) (w : World) (h : Qs.good s = true) :
    Calls Tryd.prog 11 #[.string s] w fun e w' => ParseR s e ∧ Below w.heap.size w w' := by
  have hn : Lib.trimS s.data.toList [48, 49, 50, 51] = [] := (Qs.trim_nil s).2 h
  have HT := Lib.hid (fun w => Tryd.trim_digits s w (by unfold maxLen at hs; omega))
  rw [hn] at HT
  have HG := Lib.hid h
  clear hn h
  unfold maxLen at hs
  by_cases hbig : 26 < s.size
  · have hpc : Qs.pc s = 5 := by unfold Qs.pc; rw [if_pos HG.out, if_pos hbig]
    have HP := Lib.hid (ParseR.bad hpc (by omega))
    clear hpc
    go_enter Tryd.func11, Tryd.ntmps11
    go_wp2_with fail
    refine (HT.out _).mono ?_; rintro e w1 ⟨rfl, hb⟩
    have hw := (blk_one hb).2.2
    have HB := Lib.hid (blk_one hb).1
    clear hb
    go_wp2_with fail
    have hsz1 : w.heap.size ≤ w1.heap.size := hw.size
    go_loopg [5] s.size (fun gf c wx => ∃ pos : Nat, pos ≤ s.size ∧ s.size ≤ pos + gf ∧ Hid (wx.heap[w1.heap.size]? = some (.stringIter s pos)) ∧ Hid (wx.heap[w.heap.size]? = some (.cells #[.int .i64 0, .int .i64 0, .int .i64 0] 30 (0, 0))) ∧ Below w.heap.size w wx)
    case atStart => exact ⟨0, by omega, by omega, Lib.hid (World.iter_heap w1 s 0), Lib.hid (blk_alloc HB.out _), hw.alloc hw.size _⟩
    case round =>
      obtain ⟨pos, hp0, hp1, HI, HB, hw⟩ := hrel
      by_cases hlt : pos < s.size
      · obtain ⟨g', rfl⟩ : ∃ g', gk = g' + 1 := ⟨gk - 1, by omega⟩
        obtain ⟨d0, d1⟩ := Qs.good_at HG.out pos hlt
        have hnx := fun ty => Lib.run_next_ascii_at (P := Tryd.prog) wr w1.heap.size s pos ty HI.out hlt (by omega)
        obtain ⟨d, hd⟩ : ∃ d : Nat, d = (s[pos]'hlt).toNat := ⟨_, rfl⟩
        rw [← hd] at hnx d0 d1
        have e0 : (48 : Int) ≤ (d : Int) := by omega
        have e1 : (d : Int) ≤ 51 := by omega
        have HI2 := Lib.hid (Lib.iterAt_heap wr w1.heap.size s pos (pos + 1) HI.out)
        have hne : w.heap.size ≠ w1.heap.size := fun e => by have h1 := HI.out; have h2 := HB.out; rw [← e, h2] at h1; cases h1
        have HB2 := Lib.hid ((Lib.iterAt_other wr w1.heap.size w.heap.size s (pos + 1) hne).trans HB.out)
        have hw2 := Lib.below_iterAt hw hsz1 s (pos + 1)
        clear hd
        go_wp2_with fail
        go_roundg g'
        case measure => omega
        case rel => exact ⟨pos + 1, by omega, by omega, HI2, HB2, hw2⟩
      · have hnx := fun ty => Lib.run_next_end_at (P := Tryd.prog) wr w1.heap.size s pos ty HI.out hlt
        clear HI
        obtain ⟨⟨b0, b1, b2⟩, f0, f1, f2⟩ := blk_cells3 HB.out
        go_wp2_with fail
        exact bodyPost_ret (v := .tuple #[.agg #[.int .i64 0, .int .i64 0, .int .i64 0], .int .i64 5]) (by simp [results, Tryd.results11, go_sem, b0, b1, b2]) rfl ⟨HP.out, (by repeat (first | with_reducible exact Below.refl _ _ | with_reducible assumption | with_reducible refine Below.setCell ?_ (by first | (simp; done) | omega | (simp; omega)) _))⟩
  · have hpc : Qs.pc s = 0 := by unfold Qs.pc; rw [if_pos HG.out, if_neg hbig]
    have HP := Lib.hid hpc
    clear hpc
    go_enter Tryd.func11, Tryd.ntmps11
    go_wp2_with fail
    refine (HT.out _).mono ?_; rintro e w1 ⟨rfl, hb⟩
    have hw := (blk_one hb).2.2
    have HB := Lib.hid (blk_one hb).1
    clear hb
    go_wp2_with fail
    have hsz1 : w.heap.size ≤ w1.heap.size := hw.size
    go_loopg [5] s.size (fun gf c wx => ∃ pos : Nat, pos ≤ s.size ∧ s.size ≤ pos + gf ∧ Hid (wx.heap[w1.heap.size]? = some (.stringIter s pos)) ∧ Hid (wx.heap[w.heap.size]? = some (.cells #[.int .i64 0, .int .i64 0, .int .i64 0] 30 (0, 0))) ∧ Below w.heap.size w wx)
    case atStart => exact ⟨0, by omega, by omega, Lib.hid (World.iter_heap w1 s 0), Lib.hid (blk_alloc HB.out _), hw.alloc hw.size _⟩
    case round =>
      obtain ⟨pos, hp0, hp1, HI, HB, hw⟩ := hrel
      by_cases hlt : pos < s.size
      · obtain ⟨g', rfl⟩ : ∃ g', gk = g' + 1 := ⟨gk - 1, by omega⟩
        obtain ⟨d0, d1⟩ := Qs.good_at HG.out pos hlt
        have hnx := fun ty => Lib.run_next_ascii_at (P := Tryd.prog) wr w1.heap.size s pos ty HI.out hlt (by omega)
        obtain ⟨d, hd⟩ : ∃ d : Nat, d = (s[pos]'hlt).toNat := ⟨_, rfl⟩
        rw [← hd] at hnx d0 d1
        have e0 : (48 : Int) ≤ (d : Int) := by omega
        have e1 : (d : Int) ≤ 51 := by omega
        have HI2 := Lib.hid (Lib.iterAt_heap wr w1.heap.size s pos (pos + 1) HI.out)
        have hne : w.heap.size ≠ w1.heap.size := fun e => by have h1 := HI.out; have h2 := HB.out; rw [← e, h2] at h1; cases h1
        have HB2 := Lib.hid ((Lib.iterAt_other wr w1.heap.size w.heap.size s (pos + 1) hne).trans HB.out)
        have hw2 := Lib.below_iterAt hw hsz1 s (pos + 1)
        clear hd
        go_wp2_with fail
        go_roundg g'
        case measure => omega
        case rel => exact ⟨pos + 1, by omega, by omega, HI2, HB2, hw2⟩
      · have hnx := fun ty => Lib.run_next_end_at (P := Tryd.prog) wr w1.heap.size s pos ty HI.out hlt
        clear HI
        go_wp2_with fail
        obtain ⟨wo, hwo⟩ : ∃ wo : World, wo = wr := ⟨_, rfl⟩
        rw [← hwo] at HB hw ⊢
        clear hwo
        have hso := hw.size
        have hlto := blk_lt HB.out
        go_loopg [9] s.size (fun gf c wx => ∃ (pos x y : Nat), pos ≤ s.size ∧ s.size ≤ pos + gf ∧ Hid (wx.heap[wo.heap.size + 1]? = some (.stringIter s pos)) ∧ Hid (wx.heap[wo.heap.size]? = some (.cells #[.int .i64 (pos : Int), .int .i64 (x : Int), .int .i64 (y : Int)] 30 (0, 0))) ∧ Hid (Qk.pt ((Qs.dg s).take pos) = (x, y)) ∧ Hid (wx.heap[w.heap.size]? = some (.cells #[.int .i64 0, .int .i64 0, .int .i64 0] 30 (0, 0))) ∧ Below w.heap.size w wx)
        case atStart => exact ⟨0, 0, 0, by omega, by omega, Lib.hid (by have h := World.iter_heap (wo.alloc (.cells #[.int .i64 0, .int .i64 0, .int .i64 0] 30)) s 0; rw [World.size_alloc] at h; exact h), Lib.hid (blk_alloc (heap_alloc_new wo _) _), Lib.hid (by simp [Qk.pt]), Lib.hid (blk_alloc (blk_alloc HB.out _) _), (hw.alloc hso _).alloc (by simp; omega) _⟩
        case round =>
          clear HB hw
          obtain ⟨pos, x, y, hp0, hp1, HI, H6, HXY, HB, hw⟩ := hrel
          have hlb := blk_lt HB.out
          have hne6 : w.heap.size < wo.heap.size := hlto
          have hlt6 := blk_lt H6.out
          have hxy := Qk.pt_lt ((Qs.dg s).take pos) (fun d hd => Qs.dg_lt HG.out d (List.mem_of_mem_take hd))
          rw [HXY.out, List.length_take, Qs.dg_len, Nat.min_eq_left hp0] at hxy
          obtain ⟨hx, hy⟩ := hxy
          dsimp only at hx hy
          by_cases hlt : pos < s.size
          · have hpw : 2 ^ pos ≤ 33554432 := by
              have := Nat.pow_le_pow_right (n := 2) (by omega) (show pos ≤ 25 by omega)
              simpa using this
            have hx1 : (x : Int) < 33554432 := by omega
            have hy1 : (y : Int) < 33554432 := by omega
            clear hx hy hpw
            obtain ⟨g', rfl⟩ : ∃ g', gk = g' + 1 := ⟨gk - 1, by omega⟩
            obtain ⟨d0, d1⟩ := Qs.good_at HG.out pos hlt
            have hnx := fun ty => Lib.run_next_ascii_at (P := Tryd.prog) wr (wo.heap.size + 1) s pos ty HI.out hlt (by omega)
            have hst : Qk.pt ((Qs.dg s).take (pos + 1)) = (2 * x + ((s[pos]'hlt).toNat - 48) % 2, 2 * y + ((s[pos]'hlt).toNat - 48) / 2) := by
              rw [List.take_succ_eq_append_getElem (by rw [Qs.dg_len]; exact hlt), Qk.pt_snoc, HXY.out, Qs.dg_at pos hlt]
            obtain ⟨d, hd⟩ : ∃ d : Nat, d = (s[pos]'hlt).toNat := ⟨_, rfl⟩
            rw [← hd] at hnx d0 d1 hst
            have HST := Lib.hid hst
            have HI2 := Lib.hid (Lib.iterAt_heap wr (wo.heap.size + 1) s pos (pos + 1) HI.out)
            have H62 := Lib.hid ((Lib.iterAt_other wr (wo.heap.size + 1) wo.heap.size s (pos + 1) (by omega)).trans H6.out)
            have HB2 := Lib.hid ((Lib.iterAt_other wr (wo.heap.size + 1) w.heap.size s (pos + 1) (by omega)).trans HB.out)
            have hw2 := Lib.below_iterAt hw (k := wo.heap.size + 1) (by omega) s (pos + 1)
            clear hd hst HXY
            obtain ⟨wi, hwi⟩ : ∃ wi, wi = wr.iterAt (wo.heap.size + 1) s (pos + 1) := ⟨_, rfl⟩
            rw [← hwi] at hnx HI2 H62 HB2 hw2
            clear hwi
            obtain ⟨⟨q0, q1, q2⟩, g0, g1, g2⟩ := blk_cells3 H62.out
            have hc : d = 48 ∨ d = 49 ∨ d = 50 ∨ d = 51 := by omega
            rcases hc with rfl | rfl | rfl | rfl
            all_goals
              go_wp2_with fail
              obtain ⟨n0, n1, n2, n3⟩ := i64_and1s
              have ox0 := i64_or_two x 0 (by omega) (by omega)
              have ox1 := i64_or_two x 1 (by omega) (by omega)
              have oy0 := i64_or_two y 0 (by omega) (by omega)
              have oy1 := i64_or_two y 1 (by omega) (by omega)
              simp only [Int.natCast_zero, Int.natCast_one] at ox0 ox1 oy0 oy1
              simp only [n0, n1, n2, n3, ox0, ox1, oy0, oy1]
              go_roundg g'
              case measure => omega
              case rel => exact ⟨pos + 1, _, _, by omega, by omega, Lib.hid (blk_far3 HI2.out (by omega)), Lib.hid (blk_set3 H62.out), Lib.hid HST.out, Lib.hid (blk_far3 HB2.out (by omega)), ((hw2.setCell (by dsimp only; omega) _).setCell (by dsimp only; omega) _).setCell (by dsimp only; omega) _⟩
          · have hnx := fun ty => Lib.run_next_end_at (P := Tryd.prog) wr (wo.heap.size + 1) s pos ty HI.out hlt
            obtain rfl : pos = s.size := by omega
            have hpt : Qk.pt (Qs.dg s) = (x, y) := by have h := HXY.out; rw [List.take_of_length_le (by rw [Qs.dg_len]; exact Nat.le_refl _)] at h; exact h
            have HP2 := Lib.hid (ParseR.fine HP.out hpt)
            clear HI hpt HXY
            obtain ⟨⟨q0, q1, q2⟩, g0, g1, g2⟩ := blk_cells3 H6.out
            obtain ⟨⟨b0, b1, b2⟩, f0, f1, f2⟩ := blk_cells3 HB.out
            go_wp2_with fail
            exact bodyPost_ret (v := .tuple #[.agg #[.int .i64 (s.size : Int), .int .i64 (x : Int), .int .i64 (y : Int)], .int .i64 0]) (by simp [results, Tryd.results11, go_sem, b0, b1, b2]) rfl ⟨HP2.out, (by repeat (first | with_reducible exact Below.refl _ _ | with_reducible assumption | with_reducible refine Below.setCell ?_ (by first | (simp; done) | omega | (simp; omega)) _))⟩

theorem parse_any (s : ByteArray) (hs : s.size ≤ maxLen) (w : World) :
    Calls Tryd.prog 11 #[.string s] w fun e w' => ParseR s e ∧ Below w.heap.size w w' := by
  rcases Bool.eq_false_or_eq_true (Qs.good s) with h | h
  · exact parse_good s hs w h
  · exact parse_bad s hs w h

set_option maxRecDepth 100000 in
set_option maxHeartbeats 2000000 in
theorem refparse_any (s : ByteArray) (hs : s.size ≤ maxLen) (w : World) :
    Calls Tryd.prog 12 #[.string s] w fun e w' => ParseR s e ∧ Below w.heap.size w w' := by
  unfold maxLen at hs
  have HA := Lib.hid (blk_alloc (heap_alloc_new w (.cells #[.int .i64 0, .int .i64 0, .int .i64 0] 23)) (.cells #[.int .i64 0, .int .i64 0, .int .i64 0] 23))
  have HB := Lib.hid (heap_alloc_new (w.alloc (.cells #[.int .i64 0, .int .i64 0, .int .i64 0] 23)) (.cells #[.int .i64 0, .int .i64 0, .int .i64 0] 23))
  rw [World.size_alloc] at HB
  have hw : Below w.heap.size w ((w.alloc (.cells #[.int .i64 0, .int .i64 0, .int .i64 0] 23)).alloc (.cells #[.int .i64 0, .int .i64 0, .int .i64 0] 23)) := bthen ((Below.refl _ _).alloc (Nat.le_refl _) _) ((Below.refl _ _).alloc (Nat.le_refl _) _)
  rcases Bool.eq_false_or_eq_true (Qs.good s) with h | h
  · have HG := Lib.hid h
    clear h
    go_enter Tryd.func12, Tryd.ntmps12
    go_wp2_with fail
    obtain ⟨wq, hwq⟩ : ∃ wq : World, wq = ((w.alloc (.cells #[.int .i64 0, .int .i64 0, .int .i64 0] 23)).alloc (.cells #[.int .i64 0, .int .i64 0, .int .i64 0] 23)) := ⟨_, rfl⟩
    rw [← hwq] at HA HB hw ⊢
    clear hwq
    go_loopw [5] (fun ci wr => ∃ pos : Nat, pos ≤ s.size ∧ ci = .int .i64 pos ∧ wr = wq) (fun ci _ => s.size - (intOf ci).toNat)
    case atStart => exact ⟨0, by omega, rfl, rfl⟩
    case round =>
      obtain ⟨pos, hp0, rfl, rfl⟩ := hrel
      by_cases hlt : pos < s.size
      · obtain ⟨d0, d1⟩ := Qs.good_at HG.out pos hlt
        have e0 : (48 : Int) ≤ ((s[pos]'hlt).toNat : Int) := by omega
        have e1 : ((s[pos]'hlt).toNat : Int) ≤ 51 := by omega
        clear d0 d1
        go_wp2_with fail
        exact ⟨⟨pos + 1, by omega, by go_num, by first | rfl | trivial⟩, by simp [intOf]; omega⟩
      · obtain rfl : pos = s.size := by omega
        by_cases hbig : 26 < s.size
        · have hpc : Qs.pc s = 5 := by unfold Qs.pc; rw [if_pos HG.out, if_pos hbig]
          have HP := Lib.hid (ParseR.bad hpc (by omega))
          obtain ⟨⟨b0, b1, b2⟩, f0, f1, f2⟩ := blk_cells3 HA.out
          clear hpc
          go_wp2_with fail
          exact bodyPost_ret (v := .tuple #[.agg #[.int .i64 0, .int .i64 0, .int .i64 0], .int .i64 5]) (by simp [results, Tryd.results12, go_sem, b0, b1, b2]) rfl ⟨HP.out, (by repeat (first | with_reducible exact Below.refl _ _ | with_reducible assumption | with_reducible refine Below.setCell ?_ (by first | (simp; done) | omega | (simp; omega)) _))⟩
        · have hpc : Qs.pc s = 0 := by unfold Qs.pc; rw [if_pos HG.out, if_neg hbig]
          have HP := Lib.hid hpc
          clear hpc
          go_wp2_with fail
          obtain ⟨wo, hwo⟩ : ∃ wo : World, wo = wr := ⟨_, rfl⟩
          rw [← hwo] at HA HB hw ⊢
          clear hwo
          go_loopw [6] (fun ci wx => ∃ (pos x y : Nat), pos ≤ s.size ∧ ci = .int .i64 pos ∧ Hid (wx.heap[w.heap.size + 1]? = some (.cells #[.int .i64 (pos : Int), .int .i64 (x : Int), .int .i64 (y : Int)] 23 (0, 0))) ∧ Hid (Qk.pt ((Qs.dg s).take pos) = (x, y)) ∧ Hid (wx.heap[w.heap.size]? = some (.cells #[.int .i64 0, .int .i64 0, .int .i64 0] 23 (0, 0))) ∧ Below w.heap.size w wx) (fun ci _ => s.size - (intOf ci).toNat)
          case atStart => exact ⟨0, 0, 0, by omega, rfl, Lib.hid HB.out, Lib.hid (by simp [Qk.pt]), Lib.hid HA.out, hw⟩
          case round =>
            clear HA HB hw
            obtain ⟨pos, x, y, hp0, rfl, H6, HXY, HB, hw⟩ := hrel
            have hxy := Qk.pt_lt ((Qs.dg s).take pos) (fun d hd => Qs.dg_lt HG.out d (List.mem_of_mem_take hd))
            rw [HXY.out, List.length_take, Qs.dg_len, Nat.min_eq_left hp0] at hxy
            obtain ⟨hx, hy⟩ := hxy
            dsimp only at hx hy
            by_cases hlt : pos < s.size
            · have hpw : 2 ^ pos ≤ 33554432 := by
                have := Nat.pow_le_pow_right (n := 2) (by omega) (show pos ≤ 25 by omega)
                simpa using this
              have hx1 : (x : Int) < 33554432 := by omega
              have hy1 : (y : Int) < 33554432 := by omega
              clear hx hy hpw
              obtain ⟨d0, d1⟩ := Qs.good_at HG.out pos hlt
              have e0 : (48 : Int) ≤ ((s[pos]'hlt).toNat : Int) := by omega
              have e1 : ((s[pos]'hlt).toNat : Int) ≤ 51 := by omega
              have hst : Qk.pt ((Qs.dg s).take (pos + 1)) = (2 * x + ((s[pos]'hlt).toNat - 48) % 2, 2 * y + ((s[pos]'hlt).toNat - 48) / 2) := by
                rw [List.take_succ_eq_append_getElem (by rw [Qs.dg_len]; exact hlt), Qk.pt_snoc, HXY.out, Qs.dg_at pos hlt]
              have HST := Lib.hid hst
              clear hst HXY
              obtain ⟨⟨q0, q1, q2⟩, g0, g1, g2⟩ := blk_cells3 H6.out
              go_wp2_with fail
              rw [show (2 * (x : Int) + (((s[pos]'hlt).toNat : Int) - 48) % 2) = ((2 * x + ((s[pos]'hlt).toNat - 48) % 2 : Nat) : Int) by omega, show (2 * (y : Int) + (((s[pos]'hlt).toNat : Int) - 48) / 2) = ((2 * y + ((s[pos]'hlt).toNat - 48) / 2 : Nat) : Int) by omega, show ((pos : Int) + 1) = ((pos + 1 : Nat) : Int) by omega]
              exact ⟨⟨pos + 1, _, _, by omega, rfl, Lib.hid (blk_set3 H6.out), Lib.hid HST.out, Lib.hid (blk_far3 HB.out (by omega)), ((hw.setCell (by dsimp only; omega) _).setCell (by dsimp only; omega) _).setCell (by dsimp only; omega) _⟩, by simp [intOf]; omega⟩
            · obtain rfl : pos = s.size := by omega
              have hpt : Qk.pt (Qs.dg s) = (x, y) := by have h := HXY.out; rw [List.take_of_length_le (by rw [Qs.dg_len]; exact Nat.le_refl _)] at h; exact h
              have HP2 := Lib.hid (ParseR.fine HP.out hpt)
              clear hpt HXY
              obtain ⟨⟨q0, q1, q2⟩, g0, g1, g2⟩ := blk_cells3 H6.out
              obtain ⟨⟨b0, b1, b2⟩, f0, f1, f2⟩ := blk_cells3 HB.out
              go_wp2_with fail
              exact bodyPost_ret (v := .tuple #[.agg #[.int .i64 (s.size : Int), .int .i64 (x : Int), .int .i64 (y : Int)], .int .i64 0]) (by simp [results, Tryd.results12, go_sem, b0, b1, b2]) rfl ⟨HP2.out, (by repeat (first | with_reducible exact Below.refl _ _ | with_reducible assumption | with_reducible refine Below.setCell ?_ (by first | (simp; done) | omega | (simp; omega)) _))⟩
  · have hpc : Qs.pc s = 4 := by unfold Qs.pc; rw [if_neg (by simp [h])]
    have HP := Lib.hid (ParseR.bad hpc (by omega))
    obtain ⟨i, hi, hbad, hpre⟩ := Qs.bad_at h
    have HPR := Lib.hid hpre
    have HBAD := Lib.hid hbad
    clear hpc h hpre hbad
    go_enter Tryd.func12, Tryd.ntmps12
    go_wp2_with fail
    obtain ⟨wq, hwq⟩ : ∃ wq : World, wq = ((w.alloc (.cells #[.int .i64 0, .int .i64 0, .int .i64 0] 23)).alloc (.cells #[.int .i64 0, .int .i64 0, .int .i64 0] 23)) := ⟨_, rfl⟩
    rw [← hwq] at HA HB hw ⊢
    clear hwq
    go_loopw [5] (fun ci wr => ∃ pos : Nat, pos ≤ i ∧ ci = .int .i64 pos ∧ wr = wq) (fun ci _ => s.size - (intOf ci).toNat)
    case atStart => exact ⟨0, by omega, rfl, rfl⟩
    case round =>
      obtain ⟨pos, hp0, rfl, rfl⟩ := hrel
      have hlt : pos < s.size := by omega
      by_cases hpi : pos < i
      · obtain ⟨d0, d1⟩ := HPR.out pos hpi
        have e0 : (48 : Int) ≤ ((s[pos]'hlt).toNat : Int) := by omega
        have e1 : ((s[pos]'hlt).toNat : Int) ≤ 51 := by omega
        clear d0 d1
        go_wp2_with fail
        exact ⟨⟨pos + 1, by omega, by go_num, by first | rfl | trivial⟩, by simp [intOf]; omega⟩
      · obtain rfl : pos = i := by omega
        obtain ⟨⟨b0, b1, b2⟩, f0, f1, f2⟩ := blk_cells3 HA.out
        by_cases hl : (s[pos]'hlt).toNat < 48
        · have e0 : ((s[pos]'hlt).toNat : Int) < 48 := by omega
          clear hl
          go_wp2_with fail
          exact bodyPost_ret (v := .tuple #[.agg #[.int .i64 0, .int .i64 0, .int .i64 0], .int .i64 4]) (by simp [results, Tryd.results12, go_sem, b0, b1, b2]) rfl ⟨HP.out, (by repeat (first | with_reducible exact Below.refl _ _ | with_reducible assumption | with_reducible refine Below.setCell ?_ (by first | (simp; done) | omega | (simp; omega)) _))⟩
        · have e0 : (48 : Int) ≤ ((s[pos]'hlt).toNat : Int) := by omega
          have e1 : (51 : Int) < ((s[pos]'hlt).toNat : Int) := by have := HBAD.out; omega
          clear hl
          go_wp2_with fail
          exact bodyPost_ret (v := .tuple #[.agg #[.int .i64 0, .int .i64 0, .int .i64 0], .int .i64 4]) (by simp [results, Tryd.results12, go_sem, b0, b1, b2]) rfl ⟨HP.out, (by repeat (first | with_reducible exact Below.refl _ _ | with_reducible assumption | with_reducible refine Below.setCell ?_ (by first | (simp; done) | omega | (simp; omega)) _))⟩

end Go.Proofs.YtdipincjginmcaaDoor
