/- The document's look at the number with which a text begins. The document's Get. The program's Get. -/
import Derived.Test.YtlfahmdndlmhpaaGreatDoorM05
import Derived.Outline
import Derived.RegionTactic
namespace Go.Proofs.YtlfahmdndlmhpaaGreatDoor
open Go.RowKit

theorem Vi.wr_ten {L : List Int} (h : 10 ≤ Vi.lead L) : Vi.wr L = 11 ∧ Vi.wn L = 0 := by
  have h1 : Vi.wr L = 11 := by unfold Vi.wr; rw [if_pos h]
  exact ⟨h1, by unfold Vi.wn; rw [h1]; rfl⟩
theorem Vi.wr_short {L : List Int} (h : Vi.lead L < 10) (h2 : Vi.lead L = L.length) : Vi.wr L = 3 ∧ Vi.wn L = 0 := by
  have h1 : Vi.wr L = 3 := by unfold Vi.wr; rw [if_neg (by omega), if_pos h2]
  exact ⟨h1, by unfold Vi.wn; rw [h1]; rfl⟩
theorem Vi.wr_over {L : List Int} {b : Int} (h : Vi.lead L = 9) (h2 : L[9]? = some b) (h3 : 1 < b) : Vi.wr L = 11 ∧ Vi.wn L = 0 := by
  have hl := (List.getElem?_eq_some_iff.1 h2).1
  have hg : L.getD 9 0 = b := by rw [List.getD_eq_getElem?_getD, h2]; rfl
  have h1 : Vi.wr L = 11 := by unfold Vi.wr; rw [if_neg (by omega), if_neg (by omega), if_pos ⟨h, by rw [hg]; exact h3⟩]
  exact ⟨h1, by unfold Vi.wn; rw [h1]; rfl⟩
theorem Vi.wr_form {L : List Int} {n : Nat} (h : Vi.lead L = n) (hn : n < 10) (h2 : L[n]? = some 0) (h3 : 0 < n) : Vi.wr L = 4 ∧ Vi.wn L = 0 := by
  have hl := (List.getElem?_eq_some_iff.1 h2).1
  have hg : L.getD n 0 = 0 := by rw [List.getD_eq_getElem?_getD, h2]; rfl
  have h1 : Vi.wr L = 4 := by
    unfold Vi.wr
    rw [if_neg (by omega), if_neg (by omega), if_neg (by rintro ⟨h4, h5⟩; rw [h] at h4; subst h4; rw [hg] at h5; omega), if_pos ⟨by omega, by rw [h]; exact hg⟩]
  exact ⟨h1, by unfold Vi.wn; rw [h1]; rfl⟩
theorem Vi.wr_fine {L : List Int} {n : Nat} {b : Int} (h : Vi.lead L = n) (hn : n < 10) (h2 : L[n]? = some b) (h3 : n = 9 → b ≤ 1) (h4 : 0 < n → b ≠ 0) : Vi.wr L = 0 ∧ Vi.wn L = n + 1 := by
  have hl := (List.getElem?_eq_some_iff.1 h2).1
  have hg : L.getD n 0 = b := by rw [List.getD_eq_getElem?_getD, h2]; rfl
  have h1 : Vi.wr L = 0 := by
    unfold Vi.wr
    rw [if_neg (by omega), if_neg (by omega), if_neg (by rintro ⟨h5, h6⟩; rw [h] at h5; subst h5; rw [hg] at h6; have := h3 rfl; omega), if_neg (by rintro ⟨h5, h6⟩; rw [h] at h5 h6; rw [hg] at h6; exact h4 h5 h6)]
  exact ⟨h1, by unfold Vi.wn; rw [if_pos h1, h]⟩

end Go.Proofs.YtlfahmdndlmhpaaGreatDoor
namespace Go.Proofs.YtlfahmdndlmhpaaGreatDoor
open Go.RowKit

def Vi.tl (s : ByteArray) (a : Int) : List Int := Vi.nums (s.extract a.toNat s.size)
def Vi.gb (s : ByteArray) (a b : Int) : Int := if b = 0 then (if 0 ≤ a ∧ a ≤ s.size then Vi.wr (Vi.tl s a) else 2) else b
def Vi.gx (s : ByteArray) (a b : Int) : Int := if Vi.gb s a b = 0 then Vi.num (Vi.tl s a) else 0
def Vi.ga (s : ByteArray) (a b : Int) : Int := if Vi.gb s a b = 0 then a + Vi.wn (Vi.tl s a) else a
theorem Vi.g_not {s : ByteArray} {a b e : Int} (h : Vi.gb s a b = e) (he : e ≠ 0) : Vi.gx s a b = 0 ∧ Vi.ga s a b = a := by
  unfold Vi.gx Vi.ga; rw [h, if_neg he, if_neg he]; exact ⟨rfl, rfl⟩
theorem Vi.tl_drop (s : ByteArray) (A : Nat) : Vi.tl s (A : Int) = (Vi.nums s).drop A := by
  unfold Vi.tl Vi.nums
  rw [show ((A : Int)).toNat = A by simp, ← List.map_drop, ByteArray.data_extract, Array.toList_extract]
  congr 1
  rw [List.extract_eq_take_drop]
  exact List.take_of_length_le (by rw [List.length_drop, Array.length_toList]; exact Nat.le_refl _)
theorem Vi.tl_at (s : ByteArray) (A i : Nat) (h : A + i < s.size) : (Vi.tl s (A : Int))[i]? = some ((s[A + i]'h).toNat : Int) := by
  rw [Vi.tl_drop, List.getElem?_drop, Vi.nums_at s (A + i) h]
theorem Vi.tl_len (s : ByteArray) (A : Nat) : (Vi.tl s (A : Int)).length = s.size - A := by
  rw [Vi.tl_drop, List.length_drop, Vi.nums_len]

def ScPost (t : Int) (s : ByteArray) (a b : Int) (w : World) (e : Ending) (w' : World) : Prop := e = .returned (.tuple #[.int .u64 t, Sc s a b]) ∧ Below w.heap.size w w'

end Go.Proofs.YtlfahmdndlmhpaaGreatDoor
namespace Go.Proofs.YtlfahmdndlmhpaaGreatDoor
open Go.RowKit

theorem pow7 (n : Nat) : (2 : Int) ^ (7 * n) = (128 : Int) ^ n := by rw [Int.pow_mul]; rfl
/-- the next seven bits laid over those that are there -/
theorem or_next {x b : Int} (n : Nat) (hn : n ≤ 9) (h0 : 0 ≤ x) (h1 : x < (128 : Int) ^ n) (hb0 : 0 ≤ b) (hb1 : b < 128) (h9 : n = 9 → b ≤ 1) :
    bits .or .u64 x (IntKind.u64.wrap (b * 2 ^ (7 * n))) = x + (128 : Int) ^ n * (b % 128) := by
  have hp : (128 : Int) ^ n ≤ 9223372036854775808 := by
    have h := Nat.pow_le_pow_right (n := 128) (by omega) hn
    have h2 : (128 : Nat) ^ 9 = 9223372036854775808 := by decide
    have e : (128 : Int) ^ n = ((128 ^ n : Nat) : Int) := by rw [Int.natCast_pow]; rfl
    omega
  have hp0 : 0 < (128 : Int) ^ n := by
    have := Nat.pow_pos (n := n) (show 0 < 128 by omega)
    have e : (128 : Int) ^ n = ((128 ^ n : Nat) : Int) := by rw [Int.natCast_pow]; rfl
    omega
  have hfit : b * (128 : Int) ^ n < 18446744073709551616 := by
    rcases Nat.lt_or_ge n 9 with c | c
    · have h := Nat.pow_le_pow_right (n := 128) (by omega) (show n ≤ 8 by omega)
      have h2 : (128 : Nat) ^ 8 = 72057594037927936 := by decide
      have e : (128 : Int) ^ n = ((128 ^ n : Nat) : Int) := by rw [Int.natCast_pow]; rfl
      have h3 : (128 : Int) ^ n ≤ 72057594037927936 := by omega
      have h4 : b * (128 : Int) ^ n ≤ 127 * (128 : Int) ^ n := Int.mul_le_mul_of_nonneg_right (by omega) (by omega)
      omega
    · have h := h9 (by omega)
      have h4 : b * (128 : Int) ^ n ≤ 1 * (128 : Int) ^ n := Int.mul_le_mul_of_nonneg_right (by omega) (by omega)
      omega
  have hge : 0 ≤ b * (128 : Int) ^ n := Int.mul_nonneg hb0 (by omega)
  rw [pow7, u64w hge hfit, ← pow7, or_over h0 (by rw [pow7]; exact h1) hb0 (by rw [pow7]; exact hfit) (by omega), pow7, Int.mul_comm, Int.emod_eq_of_lt hb0 hb1]
theorem and127 {b : Int} (h0 : 0 ≤ b) (h1 : b < 256) : bits .and .u8 b 127 = b % 128 := by
  have h2 : ∀ k : Fin 256, bits .and .u8 (k.val : Int) 127 = (k.val : Int) % 128 := by decide +kernel
  have h3 := h2 ⟨b.toNat, by omega⟩
  have h4 : ((b.toNat : Nat) : Int) = b := by omega
  simp only [h4] at h3
  exact h3
theorem or_more {x b : Int} (n : Nat) (hn : n ≤ 8) (h0 : 0 ≤ x) (h1 : x < (128 : Int) ^ n) :
    bits .or .u64 x (IntKind.u64.wrap (b % 128 * 2 ^ (7 * n))) = x + (128 : Int) ^ n * (b % 128) := by
  rw [or_next n (by omega) h0 h1 (by omega) (by omega) (by omega), Int.emod_emod_of_dvd b (by decide)]

set_option maxRecDepth 100000 in
set_option maxHeartbeats 8000000 in
theorem get_ok (s : ByteArray) (A : Nat) (hs : s.size ≤ 1000000) (hA : A ≤ s.size) (w : World) :
    Calls Tryz.prog 61 #[Sc s A 0] w (ScPost (Vi.gx s A 0) s (Vi.ga s A 0) (Vi.gb s A 0) w) := by
  have hgb : Vi.gb s A 0 = Vi.wr (Vi.tl s A) := by unfold Vi.gb; rw [if_pos rfl, if_pos ⟨by omega, by omega⟩]
  have hes : (s.extract A s.size).size = s.size - A := by simp
  have HT : Hid (∀ (i : Nat) (h : i < (s.extract A s.size).size), (Vi.tl s A)[i]? = some (((s.extract A s.size)[i]'h).toNat : Int)) := Lib.hid (fun i h => Vi.nums_at _ i h)
  have HL := Lib.hid (Vi.tl_len s A)
  obtain ⟨L, hL⟩ : ∃ L, L = Vi.tl s (A : Int) := ⟨_, rfl⟩
  rw [← hL] at hgb HT HL
  have HLL := Lib.hid hL
  have HGB := Lib.hid hgb
  have HES := Lib.hid hes
  clear hL hgb hes
  go_enter Tryz.func61, Tryz.ntmps61
  go_wp2_with fail
  go_step3
  go_wp2_with fail
  go_step3
  go_wp2_with fail
  go_loop [4, 5, 6, 36] (fun cx cn cw ci => ∃ (k : Nat) (X : Int), k ≤ 10 ∧ k ≤ s.size - A ∧ ci = .int .i64 k ∧ cn = .int .i64 k ∧ cw = .bool false ∧ cx = .int .u64 X ∧ (0 ≤ X ∧ X < 18446744073709551616) ∧ Hid (k ≤ Vi.lead L) ∧ Hid (k ≤ 9 → X = Vi.val (L.take k))) (fun _ _ _ ci => (11 - intOf ci).toNat)
  case atStart => exact ⟨0, 0, by omega, by omega, rfl, rfl, rfl, rfl, by omega, Lib.hid (Nat.zero_le _), Lib.hid (fun _ => rfl)⟩
  case round =>
    obtain ⟨k, X, hk10, hk, rfl, rfl, rfl, rfl, ⟨hX0, hX1⟩, hl, hX⟩ := hrel
    by_cases hsz : k = s.size - A
    · by_cases h10 : k = 10
      · subst h10
        have hw := Lib.hid (Vi.wr_ten hl.out).1
        have HZ : Hid (Vi.gb s A 0 = 11 ∧ Vi.gx s A 0 = 0 ∧ Vi.ga s A 0 = A) := Lib.hid ⟨HGB.out.trans hw.out, Vi.g_not (HGB.out.trans hw.out) (by omega)⟩
        go_wp2_with fail
        refine (bad_any _ _ _ _ _).mono ?_; rintro e w1 ⟨rfl, hbb⟩
        obtain ⟨hA1, hB1, hsA, hsB, hw1⟩ := blk_two hbb
        obtain ⟨⟨b0, b1, b2⟩, g0, g1, g2⟩ := blk_cells3 hB1
        clear hA1 hB1 hbb
        go_wp2_with fail
        try rw [Exit.noGoto_ret]
        exact bodyPost_ret (v := .tuple #[.int .u64 0, Sc s A 11]) (by simp [results, Tryz.results61, go_sem, b0, b1, b2]) rfl ⟨by rw [HZ.out.1, HZ.out.2.1, HZ.out.2.2], (by repeat (first | with_reducible exact Below.refl _ _ | with_reducible assumption | with_reducible refine Below.setCell ?_ (by first | (simp; done) | (simp; omega) | omega) _ | with_reducible refine Below.alloc ?_ (by first | exact Nat.le_refl _ | (simp; done) | (simp; omega) | omega) _ | with_reducible refine Below.drew ?_))⟩
      · have hle := Vi.lead_le L
        have hw : Hid (Vi.wr L = 3) := Lib.hid (Vi.wr_short (by have h1 := hl.out; have h2 := HL.out; omega) (by have h1 := hl.out; have h2 := HL.out; omega)).1
        have hd1 : ((k : Int) == 10) = false := by rw [beq_eq_false_iff_ne]; omega
        clear hle
        have HZ : Hid (Vi.gb s A 0 = 3 ∧ Vi.gx s A 0 = 0 ∧ Vi.ga s A 0 = A) := Lib.hid ⟨HGB.out.trans hw.out, Vi.g_not (HGB.out.trans hw.out) (by omega)⟩
        go_wp2_with fail
        refine (bad_any _ _ _ _ _).mono ?_; rintro e w1 ⟨rfl, hbb⟩
        obtain ⟨hA1, hB1, hsA, hsB, hw1⟩ := blk_two hbb
        obtain ⟨⟨b0, b1, b2⟩, g0, g1, g2⟩ := blk_cells3 hB1
        clear hA1 hB1 hbb
        go_wp2_with fail
        try rw [Exit.noGoto_ret]
        exact bodyPost_ret (v := .tuple #[.int .u64 0, Sc s A 3]) (by simp [results, Tryz.results61, go_sem, b0, b1, b2]) rfl ⟨by rw [HZ.out.1, HZ.out.2.1, HZ.out.2.2], (by repeat (first | with_reducible exact Below.refl _ _ | with_reducible assumption | with_reducible refine Below.setCell ?_ (by first | (simp; done) | (simp; omega) | omega) _ | with_reducible refine Below.alloc ?_ (by first | exact Nat.le_refl _ | (simp; done) | (simp; omega) | omega) _ | with_reducible refine Below.drew ?_))⟩
    · by_cases h10 : k = 10
      · subst h10
        have hw := Lib.hid (Vi.wr_ten hl.out).1
        have HZ : Hid (Vi.gb s A 0 = 11 ∧ Vi.gx s A 0 = 0 ∧ Vi.ga s A 0 = A) := Lib.hid ⟨HGB.out.trans hw.out, Vi.g_not (HGB.out.trans hw.out) (by omega)⟩
        go_wp2_with fail
        refine (bad_any _ _ _ _ _).mono ?_; rintro e w1 ⟨rfl, hbb⟩
        obtain ⟨hA1, hB1, hsA, hsB, hw1⟩ := blk_two hbb
        obtain ⟨⟨b0, b1, b2⟩, g0, g1, g2⟩ := blk_cells3 hB1
        clear hA1 hB1 hbb
        go_wp2_with fail
        try rw [Exit.noGoto_ret]
        exact bodyPost_ret (v := .tuple #[.int .u64 0, Sc s A 11]) (by simp [results, Tryz.results61, go_sem, b0, b1, b2]) rfl ⟨by rw [HZ.out.1, HZ.out.2.1, HZ.out.2.2], (by repeat (first | with_reducible exact Below.refl _ _ | with_reducible assumption | with_reducible refine Below.setCell ?_ (by first | (simp; done) | (simp; omega) | omega) _ | with_reducible refine Below.alloc ?_ (by first | exact Nat.le_refl _ | (simp; done) | (simp; omega) | omega) _ | with_reducible refine Below.drew ?_))⟩
      · have hlt : k < (s.extract A s.size).size := by rw [HES.out]; omega
        have hb := HT.out k hlt
        have hlt10 : k < 10 := by omega
        have hb0 : 0 ≤ (((s.extract A s.size)[k]'hlt).toNat : Int) := by omega
        have hbb : (((s.extract A s.size)[k]'hlt).toNat : Int) < 256 := by have := ((s.extract A s.size)[k]'hlt).toNat_lt; omega
        have hd1 : ((k : Int) == 10) = false := by rw [beq_eq_false_iff_ne]; omega
        by_cases hsm : (((s.extract A s.size)[k]'hlt).toNat : Int) < 128
        · have hst := Lib.hid (Vi.lead_stop _ k _ hl.out hb hsm)
          have HB := Lib.hid hb
          clear hb
          by_cases h9 : k = 9
          · subst h9
            by_cases hov : 1 < (((s.extract A s.size)[9]'hlt).toNat : Int)
            · have hw := Lib.hid (Vi.wr_over hst.out HB.out hov).1
              have HZ : Hid (Vi.gb s A 0 = 11 ∧ Vi.gx s A 0 = 0 ∧ Vi.ga s A 0 = A) := Lib.hid ⟨HGB.out.trans hw.out, Vi.g_not (HGB.out.trans hw.out) (by omega)⟩
              go_wp2_with fail
              refine (bad_any _ _ _ _ _).mono ?_; rintro e w1 ⟨rfl, hbb⟩
              obtain ⟨hA1, hB1, hsA, hsB, hw1⟩ := blk_two hbb
              obtain ⟨⟨b0, b1, b2⟩, g0, g1, g2⟩ := blk_cells3 hB1
              clear hA1 hB1 hbb
              go_wp2_with fail
              try rw [Exit.noGoto_ret]
              exact bodyPost_ret (v := .tuple #[.int .u64 0, Sc s A 11]) (by simp [results, Tryz.results61, go_sem, b0, b1, b2]) rfl ⟨by rw [HZ.out.1, HZ.out.2.1, HZ.out.2.2], (by repeat (first | with_reducible exact Below.refl _ _ | with_reducible assumption | with_reducible refine Below.setCell ?_ (by first | (simp; done) | (simp; omega) | omega) _ | with_reducible refine Below.alloc ?_ (by first | exact Nat.le_refl _ | (simp; done) | (simp; omega) | omega) _ | with_reducible refine Below.drew ?_))⟩
            · by_cases hz : (((s.extract A s.size)[9]'hlt).toNat : Int) = 0
              · have hw := Lib.hid (Vi.wr_form hst.out hlt10 (by rw [HB.out, hz]) (by omega)).1
                have hz' : ((((s.extract A s.size)[9]'hlt).toNat : Int) == 0) = true := by rw [beq_iff_eq]; exact hz
                have hz1 : (((s.extract A s.size)[9]'hlt).toNat : Int) ≤ 1 := by omega
                clear hz
                have HZ : Hid (Vi.gb s A 0 = 4 ∧ Vi.gx s A 0 = 0 ∧ Vi.ga s A 0 = A) := Lib.hid ⟨HGB.out.trans hw.out, Vi.g_not (HGB.out.trans hw.out) (by omega)⟩
                go_wp2_with fail
                refine (bad_any _ _ _ _ _).mono ?_; rintro e w1 ⟨rfl, hbb⟩
                obtain ⟨hA1, hB1, hsA, hsB, hw1⟩ := blk_two hbb
                obtain ⟨⟨b0, b1, b2⟩, g0, g1, g2⟩ := blk_cells3 hB1
                clear hA1 hB1 hbb
                go_wp2_with fail
                try rw [Exit.noGoto_ret]
                exact bodyPost_ret (v := .tuple #[.int .u64 0, Sc s A 4]) (by simp [results, Tryz.results61, go_sem, b0, b1, b2]) rfl ⟨by rw [HZ.out.1, HZ.out.2.1, HZ.out.2.2], (by repeat (first | with_reducible exact Below.refl _ _ | with_reducible assumption | with_reducible refine Below.setCell ?_ (by first | (simp; done) | (simp; omega) | omega) _ | with_reducible refine Below.alloc ?_ (by first | exact Nat.le_refl _ | (simp; done) | (simp; omega) | omega) _ | with_reducible refine Below.drew ?_))⟩
              · have hz' : ((((s.extract A s.size)[9]'hlt).toNat : Int) == 0) = false := by rw [beq_eq_false_iff_ne]; exact hz
                have hz1 : (((s.extract A s.size)[9]'hlt).toNat : Int) ≤ 1 := by omega
                have HZ : Hid (Vi.gb s A 0 = 0 ∧ Vi.gx s A 0 = bits .or .u64 X ((((s.extract A s.size)[9]'hlt).toNat : Int) * 9223372036854775808) ∧ Vi.ga s A 0 = A + (9 + 1 : Nat)) := Lib.hid (by
                  have hf := Vi.wr_fine hst.out hlt10 HB.out (by omega) (by omega)
                  have hgb := HGB.out.trans hf.1
                  refine ⟨hgb, ?_, ?_⟩
                  · unfold Vi.gx
                    rw [if_pos hgb, ← HLL.out]
                    unfold Vi.num
                    rw [hf.2, List.take_succ_eq_append_getElem (List.getElem?_eq_some_iff.1 HB.out).1, (List.getElem?_eq_some_iff.1 HB.out).2, Vi.val_snoc, ← hX.out (by omega)]
                    have hlen : (L.take 9).length = 9 := by rw [List.length_take]; have := (List.getElem?_eq_some_iff.1 HB.out).1; omega
                    rw [hlen]
                    have hor := or_next 9 (by omega) hX0 (by rw [hX.out (by omega)]; have h := Vi.val_lt (L.take 9); rwa [hlen] at h) hb0 hsm (by omega)
                    rw [show (2 : Int) ^ (7 * 9) = 9223372036854775808 from rfl, u64w (by omega) (by omega)] at hor
                    exact hor.symm
                  · unfold Vi.ga
                    rw [if_pos hgb, ← HLL.out, hf.2])
                go_wp2_with fail
                go_region
                all_goals
                  go_wp2_with fail
                  try rw [Exit.noGoto_ret]
                  exact bodyPost_ret (v := .tuple #[.int .u64 _, Sc s _ 0]) (by simp [results, Tryz.results61, go_sem]; exact ⟨rfl, rfl⟩) rfl ⟨by rw [HZ.out.1, HZ.out.2.1, HZ.out.2.2]; push_cast; rfl, (by repeat (first | with_reducible exact Below.refl _ _ | with_reducible assumption | with_reducible refine Below.setCell ?_ (by first | (simp; done) | (simp; omega) | omega) _ | with_reducible refine Below.alloc ?_ (by first | exact Nat.le_refl _ | (simp; done) | (simp; omega) | omega) _ | with_reducible refine Below.drew ?_))⟩
          · have hd2 : ((k : Int) + 1 == 10) = false := by rw [beq_eq_false_iff_ne]; omega
            by_cases h0 : k = 0
            · subst h0
              have HZ : Hid (Vi.gb s A 0 = 0 ∧ Vi.gx s A 0 = bits .or .u64 X (((s.extract A s.size)[0]'hlt).toNat : Int) ∧ Vi.ga s A 0 = A + (0 + 1 : Nat)) := Lib.hid (by
                have hf := Vi.wr_fine hst.out hlt10 HB.out (by omega) (by omega)
                have hgb := HGB.out.trans hf.1
                refine ⟨hgb, ?_, ?_⟩
                · unfold Vi.gx
                  rw [if_pos hgb, ← HLL.out]
                  unfold Vi.num
                  rw [hf.2, List.take_succ_eq_append_getElem (List.getElem?_eq_some_iff.1 HB.out).1, (List.getElem?_eq_some_iff.1 HB.out).2, Vi.val_snoc, ← hX.out (by omega)]
                  have hlen : (L.take 0).length = 0 := by rw [List.length_take]; have := (List.getElem?_eq_some_iff.1 HB.out).1; omega
                  rw [hlen]
                  have hor := or_next 0 (by omega) hX0 (by rw [hX.out (by omega)]; have h := Vi.val_lt (L.take 0); rwa [hlen] at h) hb0 hsm (by omega)
                  rw [show (2 : Int) ^ (7 * 0) = 1 from rfl, Int.mul_one, u64w (by omega) (by omega)] at hor
                  exact hor.symm
                · unfold Vi.ga
                  rw [if_pos hgb, ← HLL.out, hf.2])
              go_wp2_with fail
              go_region
              all_goals
                go_wp2_with fail
                try rw [Exit.noGoto_ret]
                exact bodyPost_ret (v := .tuple #[.int .u64 _, Sc s _ 0]) (by simp [results, Tryz.results61, go_sem]; exact ⟨rfl, rfl⟩) rfl ⟨by rw [HZ.out.1, HZ.out.2.1, HZ.out.2.2]; push_cast; rfl, (by repeat (first | with_reducible exact Below.refl _ _ | with_reducible assumption | with_reducible refine Below.setCell ?_ (by first | (simp; done) | (simp; omega) | omega) _ | with_reducible refine Below.alloc ?_ (by first | exact Nat.le_refl _ | (simp; done) | (simp; omega) | omega) _ | with_reducible refine Below.drew ?_))⟩
            · have hk1 : (1 : Int) < (k : Int) + 1 := by omega
              by_cases hz : (((s.extract A s.size)[k]'hlt).toNat : Int) = 0
              · have hw := Lib.hid (Vi.wr_form hst.out hlt10 (by rw [HB.out, hz]) (by omega)).1
                have hz' : ((((s.extract A s.size)[k]'hlt).toNat : Int) == 0) = true := by rw [beq_iff_eq]; exact hz
                clear hz
                have HZ : Hid (Vi.gb s A 0 = 4 ∧ Vi.gx s A 0 = 0 ∧ Vi.ga s A 0 = A) := Lib.hid ⟨HGB.out.trans hw.out, Vi.g_not (HGB.out.trans hw.out) (by omega)⟩
                go_wp2_with fail
                refine (bad_any _ _ _ _ _).mono ?_; rintro e w1 ⟨rfl, hbb⟩
                obtain ⟨hA1, hB1, hsA, hsB, hw1⟩ := blk_two hbb
                obtain ⟨⟨b0, b1, b2⟩, g0, g1, g2⟩ := blk_cells3 hB1
                clear hA1 hB1 hbb
                go_wp2_with fail
                try rw [Exit.noGoto_ret]
                exact bodyPost_ret (v := .tuple #[.int .u64 0, Sc s A 4]) (by simp [results, Tryz.results61, go_sem, b0, b1, b2]) rfl ⟨by rw [HZ.out.1, HZ.out.2.1, HZ.out.2.2], (by repeat (first | with_reducible exact Below.refl _ _ | with_reducible assumption | with_reducible refine Below.setCell ?_ (by first | (simp; done) | (simp; omega) | omega) _ | with_reducible refine Below.alloc ?_ (by first | exact Nat.le_refl _ | (simp; done) | (simp; omega) | omega) _ | with_reducible refine Below.drew ?_))⟩
              · have hz' : ((((s.extract A s.size)[k]'hlt).toNat : Int) == 0) = false := by rw [beq_eq_false_iff_ne]; exact hz
                have HZ : Hid (Vi.gb s A 0 = 0 ∧ Vi.gx s A 0 = bits .or .u64 X (IntKind.u64.wrap ((((s.extract A s.size)[k]'hlt).toNat : Int) * 2 ^ (7 * k))) ∧ Vi.ga s A 0 = A + (k + 1 : Nat)) := Lib.hid (by
                  have hf := Vi.wr_fine hst.out hlt10 HB.out (by omega) (by omega)
                  have hgb := HGB.out.trans hf.1
                  refine ⟨hgb, ?_, ?_⟩
                  · unfold Vi.gx
                    rw [if_pos hgb, ← HLL.out]
                    unfold Vi.num
                    rw [hf.2, List.take_succ_eq_append_getElem (List.getElem?_eq_some_iff.1 HB.out).1, (List.getElem?_eq_some_iff.1 HB.out).2, Vi.val_snoc, ← hX.out (by omega)]
                    have hlen : (L.take k).length = k := by rw [List.length_take]; have := (List.getElem?_eq_some_iff.1 HB.out).1; omega
                    rw [hlen]
                    have hor := or_next k (by omega) hX0 (by rw [hX.out (by omega)]; have h := Vi.val_lt (L.take k); rwa [hlen] at h) hb0 hsm (by omega)
                    exact hor.symm
                  · unfold Vi.ga
                    rw [if_pos hgb, ← HLL.out, hf.2])
                go_wp2_with fail
                go_region
                all_goals
                  go_wp2_with fail
                  try rw [Exit.noGoto_ret]
                  exact bodyPost_ret (v := .tuple #[.int .u64 _, Sc s _ 0]) (by simp [results, Tryz.results61, go_sem]; exact ⟨rfl, rfl⟩) rfl ⟨by rw [HZ.out.1, HZ.out.2.1, HZ.out.2.2]; push_cast; rfl, (by repeat (first | with_reducible exact Below.refl _ _ | with_reducible assumption | with_reducible refine Below.setCell ?_ (by first | (simp; done) | (simp; omega) | omega) _ | with_reducible refine Below.alloc ?_ (by first | exact Nat.le_refl _ | (simp; done) | (simp; omega) | omega) _ | with_reducible refine Below.drew ?_))⟩
        · have hm := Lib.hid (Vi.lead_more _ k _ hl.out hb (by omega))
          have hxn : Hid (k + 1 ≤ 9 → bits .or .u64 X (IntKind.u64.wrap ((((s.extract A s.size)[k]'hlt).toNat : Int) % 128 * 2 ^ (7 * k))) = Vi.val (L.take (k + 1))) := Lib.hid (by
            intro h9
            have hkl := (List.getElem?_eq_some_iff.1 hb).1
            have hlen : (L.take k).length = k := by rw [List.length_take]; omega
            rw [or_more k (by omega) hX0 (by rw [hX.out (by omega)]; have h := Vi.val_lt (L.take k); rwa [hlen] at h)]
            rw [List.take_succ_eq_append_getElem hkl, (List.getElem?_eq_some_iff.1 hb).2, Vi.val_snoc, ← hX.out (by omega), hlen])
          have hwr : 0 ≤ IntKind.u64.wrap ((((s.extract A s.size)[k]'hlt).toNat : Int) % 128 * 2 ^ (7 * k)) ∧ IntKind.u64.wrap ((((s.extract A s.size)[k]'hlt).toNat : Int) % 128 * 2 ^ (7 * k)) < 18446744073709551616 := by rw [IntKind.wrap_u64]; omega
          have hxf := Lib.hid (or_fits hX0 hX1 hwr.1 hwr.2)
          have hnd := and127 hb0 hbb
          clear hb hwr
          go_wp2_with fail
          exact ⟨⟨k + 1, _, by omega, by omega, by go_num, by go_num, rfl, rfl, hxf.out, hm, hxn⟩, by simp only [intOf]; omega⟩

set_option maxRecDepth 100000 in
set_option maxHeartbeats 2000000 in
theorem get_any (s : ByteArray) (a b : Int) (hs : s.size ≤ 1000000) (w : World) :
    Calls Tryz.prog 61 #[Sc s a b] w (ScPost (Vi.gx s a b) s (Vi.ga s a b) (Vi.gb s a b) w) := by
  by_cases hb : b = 0
  · subst hb
    by_cases ha : 0 ≤ a ∧ a ≤ s.size
    · obtain ⟨A, rfl⟩ := Int.eq_ofNat_of_zero_le ha.1
      exact get_ok s A hs (by omega) w
    · have hgb : Vi.gb s a 0 = 2 := by unfold Vi.gb; rw [if_pos rfl, if_neg ha]
      have hgx := Vi.g_not hgb (by omega)
      rw [hgx.1, hgx.2, hgb]
      clear hgb hgx
      by_cases h0 : a < 0
      all_goals
        go_enter Tryz.func61, Tryz.ntmps61
        go_wp2_with fail
        go_step3
        go_wp2_with fail
        refine (bad_any _ _ _ _ _).mono ?_; rintro e w1 ⟨rfl, hbb⟩
        obtain ⟨hA1, hB1, hsA, hsB, hw1⟩ := blk_two hbb
        obtain ⟨⟨b0, b1, b2⟩, g0, g1, g2⟩ := blk_cells3 hB1
        clear hA1 hB1 hbb
        go_wp2_with fail
        try rw [Exit.noGoto_ret]
        exact bodyPost_ret (v := .tuple #[.int .u64 0, Sc s a 2]) (by simp [results, Tryz.results61, go_sem, b0, b1, b2]) rfl ⟨rfl, (by repeat (first | with_reducible exact Below.refl _ _ | with_reducible assumption | with_reducible refine Below.setCell ?_ (by first | (simp; done) | (simp; omega) | omega) _ | with_reducible refine Below.alloc ?_ (by first | exact Nat.le_refl _ | (simp; done) | (simp; omega) | omega) _ | with_reducible refine Below.drew ?_))⟩
  · have hgb : Vi.gb s a b = b := by unfold Vi.gb; rw [if_neg hb]
    have hgx := Vi.g_not hgb hb
    have hd : (b != 0) = true := by rw [bne_iff_ne]; exact hb
    rw [hgx.1, hgx.2, hgb]
    clear hgb hgx hb
    go_enter Tryz.func61, Tryz.ntmps61
    go_wp2_with fail
    go_step3
    go_wp2_with fail
    go_region
    all_goals
      go_wp2_with fail
      try rw [Exit.noGoto_ret]
      exact bodyPost_ret (v := .tuple #[.int .u64 0, Sc s a b]) (by simp [results, Tryz.results61, go_sem]) rfl ⟨rfl, (bthen (blk_new _ _) (blk_new _ _)).drew⟩

end Go.Proofs.YtlfahmdndlmhpaaGreatDoor
