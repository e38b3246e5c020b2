/- The document's Get. -/
import Derived.Test.YtppciejcobmikaaVarWrong
import Derived.Outline
namespace Go.Proofs.Ytppciejcobmikaa
open Go.RowKit

def Vi.tl (s : ByteArray) (a : Int) : List Int := Vi.nums (s.extract a.toNat s.size)
def Vi.gb (s : ByteArray) (a b : Int) : Int := if b = 0 then (if 0 ≤ a ∧ a ≤ s.size then Vi.wr (Vi.tl s a) else 2) else b
def Vi.gx (s : ByteArray) (a b : Int) : Int := if Vi.gb s a b = 0 then Vi.num (Vi.tl s a) else 0
def Vi.ga (s : ByteArray) (a b : Int) : Int := if Vi.gb s a b = 0 then a + Vi.wn (Vi.tl s a) else a
theorem Vi.g_not {s : ByteArray} {a b e : Int} (h : Vi.gb s a b = e) (he : e ≠ 0) : Vi.gx s a b = 0 ∧ Vi.ga s a b = a := by
  unfold Vi.gx Vi.ga; rw [h, if_neg he, if_neg he]; exact ⟨rfl, rfl⟩
theorem Vi.tl_drop (s : ByteArray) (A : Nat) : Vi.tl s (A : Int) = (Vi.nums s).drop A := by
  unfold Vi.tl Vi.nums
  rw [show ((A : Int)).toNat = A by simp, ← List.map_drop, ByteArray.data_extract, Array.toList_extract]
  congr 1
  rw [List.extract_eq_take_drop]
  exact List.take_of_length_le (by rw [List.length_drop, Array.length_toList]; exact Nat.le_refl _)
theorem Vi.tl_at (s : ByteArray) (A i : Nat) (h : A + i < s.size) : (Vi.tl s (A : Int))[i]? = some ((s[A + i]'h).toNat : Int) := by
  rw [Vi.tl_drop, List.getElem?_drop, Vi.nums_at s (A + i) h]
theorem Vi.tl_len (s : ByteArray) (A : Nat) : (Vi.tl s (A : Int)).length = s.size - A := by
  rw [Vi.tl_drop, List.length_drop, Vi.nums_len]

def ScPost (t : Int) (s : ByteArray) (a b : Int) (w : World) (e : Ending) (w' : World) : Prop := e = .returned (.tuple #[.int .u64 t, Sc s a b]) ∧ Below w.heap.size w w'

set_option maxRecDepth 100000 in
set_option maxHeartbeats 2000000 in
theorem refget_any (s : ByteArray) (a b : Int) (hs : s.size ≤ 1000000) (w : World) :
    Calls Try.prog 51 #[Sc s a b] w (ScPost (Vi.gx s a b) s (Vi.ga s a b) (Vi.gb s a b) w) := by
  by_cases hb : b = 0
  · by_cases ha : 0 ≤ a ∧ a ≤ s.size
    · obtain ⟨A, rfl⟩ := Int.eq_ofNat_of_zero_le ha.1
      have hA : A ≤ s.size := by omega
      have hgb : Vi.gb s A b = Vi.wr (Vi.tl s A) := by unfold Vi.gb; rw [if_pos hb, if_pos ha]
      have HW := Lib.hid (fun w => wrong_any (s.extract A s.size) (by simp; omega) w)
      have htl : Vi.nums (s.extract A s.size) = Vi.tl s A := rfl
      have HW : Hid (∀ w, Calls Try.prog 71 #[.string (s.extract A s.size)] w fun e w' => e = .returned (.tuple #[.int .i64 (Vi.wr (Vi.tl s A)), .int .i64 (Vi.wn (Vi.tl s A))]) ∧ w = w') := HW
      have HT := Lib.hid (Vi.tl_at s A)
      have HL := Lib.hid (Vi.tl_len s A)
      have hfit := Vi.nums_fit (s.extract A s.size)
      rw [htl] at hfit
      obtain ⟨L, hL⟩ : ∃ L, L = Vi.tl s (A : Int) := ⟨_, rfl⟩
      rw [← hL] at hgb HW HT HL hfit
      have HLL := Lib.hid hL
      clear htl ha hL
      by_cases he : Vi.wr L = 0
      · have hN : Vi.wn L = Vi.lead L + 1 := by unfold Vi.wn; rw [if_pos he]
        have hle := (Vi.wn_le L).1
        have hle10 := (Vi.wn_le L).2
        rw [HL.out] at hle
        have hgx : Vi.gx s A b = Vi.num L := by unfold Vi.gx; rw [hgb, if_pos he, ← HLL.out]
        have hga : Vi.ga s A b = A + Vi.wn L := by unfold Vi.ga; rw [hgb, if_pos he, ← HLL.out]
        have hnum := Vi.num_lt hfit
        have hnum0 := Vi.num_ge L
        obtain ⟨N, hNN⟩ : ∃ N, N = Vi.wn L := ⟨_, rfl⟩
        have hnum' : Vi.num L = Vi.val (L.take N) := by rw [hNN]; rfl
        rw [hgx, hga, hgb, he]
        rw [← hNN] at hN hle hle10 HW ⊢
        have HE := Lib.hid he
        have HNUM := Lib.hid hnum'
        have HB := Lib.hid (⟨hnum0, hnum⟩ : 0 ≤ Vi.num L ∧ Vi.num L < 18446744073709551616)
        have hN0 : 0 < N := by omega
        have HWE : Hid (∀ w, Calls Try.prog 71 #[.string (s.extract A s.size)] w fun e w' => e = .returned (.tuple #[.int .i64 0, .int .i64 N]) ∧ w = w') := Lib.hid (by have h := HW.out; rwa [he] at h)
        have HLT := Lib.hid ((by rw [HL.out]; omega) : N ≤ L.length)
        clear hgb hgx hga hnum hnum0 hNN hnum' hN he HW hfit
        subst hb
        go_enter Try.func51, Try.ntmps51
        go_wp2_with fail
        refine (HWE.out _).mono ?_; rintro e w1 ⟨rfl, rfl⟩
        go_wp2_with fail
        go_loop [6, 7] (fun cx ci => ∃ (j : Nat) (i X : Int), j ≤ N ∧ ci = .int .i64 i ∧ Hid (i + 1 = j) ∧ cx = .int .u64 X ∧ Hid (X = Vi.val ((L.take N).drop j))) (fun _ ci => (intOf ci + 1).toNat)
        case atStart => exact ⟨N, (N : Int) - 1, 0, by omega, rfl, Lib.hid (by omega), rfl, Lib.hid (by rw [List.drop_of_length_le (by rw [List.length_take]; omega)]; rfl)⟩
        case round =>
          obtain ⟨j, i, X, hj, rfl, hI, rfl, hX⟩ := hrel
          cases j with
          | zero =>
            have hz : X = Vi.num L := by rw [hX.out, HNUM.out, List.drop_zero]
            have HZ := Lib.hid hz
            clear hz
            obtain rfl : i = -1 := by have := hI.out; omega
            go_wp2_with fail
            go_region
            all_goals
              go_wp2_with fail
              exact bodyPost_ret (v := .tuple #[.int .u64 X, Sc s (A + N) 0]) (by simp [results, Try.results51, go_sem]) rfl ⟨by rw [HZ.out], (bthen (blk_new _ _) (blk_new _ _)).drew⟩
          | succ k =>
            have hk : A + k < s.size := by omega
            have hL1 : (L.take N)[k]? = some ((s[A + k]'hk).toNat : Int) := by rw [List.getElem?_take_of_lt (by omega)]; exact HT.out k hk
            have hst := Vi.val_step (L.take N) k _ hL1
            have hdr := Vi.val_drop (L.take N) k
            have hge := Vi.val_ge ((L.take N).drop (k + 1))
            have hnn := HB.out.2
            rw [HNUM.out] at hnn
            rw [← hX.out] at hst hge
            have hb0 : 0 ≤ ((s[A + k]'hk).toNat : Int) := by omega
            have hbb : ((s[A + k]'hk).toNat : Int) < 256 := by have := (s[A + k]'hk).toNat_lt; omega
            have hx1 : 128 * X + ((s[A + k]'hk).toNat : Int) % 128 < 18446744073709551616 := by omega
            have HX2 := Lib.hid hst
            obtain rfl : i = (k : Int) := by have := hI.out; omega
            clear hst hdr hnn hX hL1 hI
            go_wp2_with fail
            exact ⟨⟨k, _, _, by omega, rfl, Lib.hid (by omega), rfl, Lib.hid (by have h := HX2.out; omega)⟩, by simp only [intOf]; omega⟩
      · have hgx := Lib.hid (Vi.g_not hgb he)
        have hgb' := Lib.hid hgb
        have hd : (Vi.wr L != 0) = true := by rw [bne_iff_ne]; exact he
        rw [hgx.out.1, hgx.out.2, hgb'.out]
        clear hgb he
        subst hb
        go_enter Try.func51, Try.ntmps51
        go_wp2_with fail
        refine (HW.out _).mono ?_; rintro e w1 ⟨rfl, rfl⟩
        go_wp2_with fail
        go_region
        all_goals
          go_wp2_with fail
          exact bodyPost_ret (v := .tuple #[.int .u64 0, Sc s A (Vi.wr L)]) (by simp [results, Try.results51, go_sem]) rfl ⟨rfl, (bthen (blk_new _ _) (blk_new _ _)).drew⟩
    · have hgb : Vi.gb s a b = 2 := by unfold Vi.gb; rw [if_pos hb, if_neg ha]
      have hgx := Vi.g_not hgb (by omega)
      rw [hgx.1, hgx.2, hgb]
      clear hgb hgx
      subst hb
      by_cases h0 : a < 0
      all_goals
        go_enter Try.func51, Try.ntmps51
        go_wp2_with fail
        go_region
        all_goals
          go_wp2_with fail
          exact bodyPost_ret (v := .tuple #[.int .u64 0, Sc s a 2]) (by simp [results, Try.results51, go_sem]) rfl ⟨rfl, (bthen (blk_new _ _) (blk_new _ _)).drew⟩
  · have hgb : Vi.gb s a b = b := by unfold Vi.gb; rw [if_neg hb]
    have hgx := Vi.g_not hgb hb
    have hd : (b != 0) = true := by rw [bne_iff_ne]; exact hb
    rw [hgx.1, hgx.2, hgb]
    clear hgb hgx hb
    go_enter Try.func51, Try.ntmps51
    go_wp2_with fail
    go_region
    all_goals
      go_wp2_with fail
      exact bodyPost_ret (v := .tuple #[.int .u64 0, Sc s a b]) (by simp [results, Try.results51, go_sem]) rfl ⟨rfl, (bthen (blk_new _ _) (blk_new _ _)).drew⟩

end Go.Proofs.Ytppciejcobmikaa
