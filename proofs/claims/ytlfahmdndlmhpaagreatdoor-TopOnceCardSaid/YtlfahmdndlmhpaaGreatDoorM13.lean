/- The walks of the small numbers: fits, cut, Num, Put, Unsigned, Signed. The walks of little's Put, Unsigned and Signed. The walks of the header's small functions and of its Check. -/
import Derived.Test.YtlfahmdndlmhpaaGreatDoorM06
import Derived.Test.YtlfahmdndlmhpaaGreatDoorM09
import Derived.Test.YtlfahmdndlmhpaaGreatDoorM05
import Derived.Test.YtlfahmdndlmhpaaGreatDoorM12
import Derived.StillTailTactics
import Derived.Deep.DeepMust
import Derived.OwnWalk
import Derived.Laws.Rows
namespace Go.Proofs.YtlfahmdndlmhpaaGreatDoor
open Go.RowKit

theorem fits_any (n : Nat) (h0 : 1 ≤ n) (h1 : n ≤ 8) (w : World) : Calls Tryz.prog 152 #[.int .i64 n] w fun e w' => e = .returned (.bool true) ∧ w = w' := by
  have k0 : decide ((1 : Int) ≤ (n : Int)) = true := decide_eq_true (by omega)
  have k1 : decide ((n : Int) ≤ 8) = true := decide_eq_true (by omega)
  go_enter Tryz.func152, Tryz.ntmps152
  go_wp2_with fail
  go_ret
  exact ⟨rfl, rfl⟩
def CutPost (s : ByteArray) (a n : Nat) (w : World) (e : Ending) (w' : World) : Prop := e = .returned (.tuple #[.string (s.extract a (a + n)), Sc s ((a + n : Nat) : Int) 0]) ∧ Below w.heap.size w w'
set_option maxHeartbeats 1000000 in
theorem cut_any (s : ByteArray) (a n : Nat) (ha : a + n ≤ s.size) (hs : s.size ≤ 1000000) (w : World) :
    Calls Tryz.prog 155 #[Sc s a 0, .int .i64 n, .bool true] w (CutPost s a n w) := by
  go_enter Tryz.func155, Tryz.ntmps155
  go_wp2_with fail
  refine (stands_any s a 0 (by omega) _).mono ?_; rintro e w1 ⟨rfl, hb⟩
  obtain ⟨hA, hB, hsA, hsB, hw1⟩ := blk_two hb
  obtain ⟨⟨a0, a1, a2⟩, f0, f1, f2⟩ := blk_cells3 hA
  obtain ⟨⟨b0, b1, b2⟩, g0, g1, g2⟩ := blk_cells3 hB
  have HB := Lib.hid hB
  clear hA hB hb
  go_wp2_with fail
  go_region
  all_goals
    go_wp2_with fail
    exact bodyPost_ret (v := .tuple #[.string (s.extract a (a + n)), Sc s ((a + n : Nat) : Int) 0]) (by simp [results, Tryz.results155, go_sem, b0, b1, b2]) rfl ⟨rfl, (by repeat (first | with_reducible exact Below.refl _ _ | with_reducible assumption | with_reducible refine Below.setCell ?_ (by first | (simp; done) | (simp; omega) | omega) _ | with_reducible refine Below.alloc ?_ (by first | exact Nat.le_refl _ | (simp; done) | (simp; omega) | omega) _ | with_reducible refine Below.drew ?_))⟩

theorem pow8 (n : Nat) : (2 : Int) ^ (8 * n) = (256 : Int) ^ n := by rw [Int.pow_mul]; rfl
theorem or_byte {x b : Int} (n : Nat) (hn : n ≤ 7) (h0 : 0 ≤ x) (h1 : x < (256 : Int) ^ n) (hb0 : 0 ≤ b) (hb1 : b < 256) :
    bits .or .u64 x (IntKind.u64.wrap (b * 2 ^ (8 * n))) = x + (256 : Int) ^ n * b := by
  have hp : (256 : Int) ^ n ≤ 72057594037927936 := by
    have h := Nat.pow_le_pow_right (n := 256) (by omega) hn
    have h2 : (256 : Nat) ^ 7 = 72057594037927936 := by decide
    have e : (256 : Int) ^ n = ((256 ^ n : Nat) : Int) := by rw [Int.natCast_pow]; rfl
    omega
  have hp0 : 0 < (256 : Int) ^ n := by
    have := Nat.pow_pos (n := n) (show 0 < 256 by omega)
    have e : (256 : Int) ^ n = ((256 ^ n : Nat) : Int) := by rw [Int.natCast_pow]; rfl
    omega
  have h4 : b * (256 : Int) ^ n ≤ 255 * (256 : Int) ^ n := Int.mul_le_mul_of_nonneg_right (by omega) (by omega)
  have hge : 0 ≤ b * (256 : Int) ^ n := Int.mul_nonneg hb0 (by omega)
  rw [pow8, u64w hge (by omega), ← pow8, or_over h0 (by rw [pow8]; exact h1) hb0 (by rw [pow8]; omega) (by omega), pow8, Int.mul_comm]
def NumPost (s : ByteArray) (a n : Nat) (w : World) (e : Ending) (w' : World) : Prop := e = .returned (.tuple #[.int .u64 (Lt.val (((Vi.nums s).drop a).take n)), Sc s ((a + n : Nat) : Int) 0]) ∧ Below w.heap.size w w'
theorem Lt.val_take {l : List Int} {k : Nat} {b : Int} (h : l[k]? = some b) : Lt.val (l.take (k + 1)) = Lt.val (l.take k) + (256 : Int) ^ k * b := by
  have h1 : k < l.length := (List.getElem?_eq_some_iff.1 h).1
  have h2 : l[k]'h1 = b := (List.getElem?_eq_some_iff.1 h).2
  rw [List.take_succ_eq_append_getElem h1, Lt.val_snoc, List.length_take, Nat.min_eq_left (by omega), h2]
theorem nums_cut (s : ByteArray) (a n : Nat) : Vi.nums (s.extract a (a + n)) = ((Vi.nums s).drop a).take n := by
  unfold Vi.nums
  rw [← List.map_drop, ← List.map_take]
  congr 1
  have : (s.extract a (a + n)).data = s.data.extract a (a + n) := by simp
  rw [this, Array.toList_extract]
  simp
set_option maxHeartbeats 1000000 in
theorem num_any (s : ByteArray) (a n : Nat) (ha : a + n ≤ s.size) (hs : s.size ≤ 1000000) (h1 : 1 ≤ n) (h8 : n ≤ 8) (w : World) :
    Calls Tryz.prog 128 #[Sc s a 0, .int .i64 n] w (NumPost s a n w) := by
  have hes : (s.extract a (a + n)).size = n := by simp; omega
  have hcut := nums_cut s a n
  obtain ⟨t, ht⟩ : ∃ t, t = s.extract a (a + n) := ⟨_, rfl⟩
  rw [← ht] at hes hcut
  have HT := Lib.hid ht
  have HES := Lib.hid hes
  have HCUT := Lib.hid hcut
  have HAT : Hid (∀ (i : Nat) (q : i < t.size), (Vi.nums t)[i]? = some ((t[i]'q).toNat : Int)) := Lib.hid (fun i q => Vi.nums_at _ i q)
  have HFIT := Lib.hid (Vi.nums_fit t)
  clear ht hes hcut
  go_enter Tryz.func128, Tryz.ntmps128
  go_wp2_with fail
  refine (fits_any n h1 h8 _).mono ?_; rintro e w1 ⟨rfl, rfl⟩
  go_wp2_with fail
  refine (cut_any s a n ha hs _).mono ?_; rintro e w1 ⟨rfl, hb⟩
  rw [← HT.out]
  obtain ⟨hA, hB, hsA, hsB, hw1⟩ := blk_two hb
  have HB := Lib.hid hB
  clear hA hb hB
  have hsz : ((t.size : Nat) : Int) = (n : Int) := by rw [HES.out]
  have HSZ := Lib.hid hsz
  clear hsz
  go_wp2_with fail
  go_loop [9, 23] (fun cx ci => ∃ (k : Nat) (X : Int), k ≤ n ∧ ci = .int .i64 k ∧ cx = .int .u64 X ∧ (0 ≤ X ∧ X < 18446744073709551616) ∧ Hid (X = Lt.val ((Vi.nums t).take k))) (fun _ ci => n - (intOf ci).toNat)
  case atStart => exact ⟨0, 0, by omega, rfl, rfl, by omega, Lib.hid rfl⟩
  case round =>
    obtain ⟨k, X, hk, rfl, rfl, ⟨hX0, hX1⟩, hX⟩ := hrel
    have hsz := HSZ.out
    by_cases hlt : k < n
    · have hlt' : k < t.size := by omega
      have hx := HAT.out k hlt'
      have hb0 : 0 ≤ ((t[k]'hlt').toNat : Int) := by omega
      have hb1 : ((t[k]'hlt').toNat : Int) < 256 := by have := (t[k]'hlt').toNat_lt; omega
      have hf : ∀ b ∈ (Vi.nums t).take k, 0 ≤ b ∧ b < 256 := fun b hb => HFIT.out b (List.mem_of_mem_take hb)
      have hbd := Lt.val_bd hf
      rw [List.length_take, Vi.nums_len, Nat.min_eq_left (by omega), ← hX.out] at hbd
      have hor := or_byte k (by omega) hX0 hbd.2 hb0 hb1
      have hnx : Hid (bits .or .u64 X (IntKind.u64.wrap (((t[k]'hlt').toNat : Int) * 2 ^ (8 * k))) = Lt.val ((Vi.nums t).take (k + 1))) := Lib.hid (by rw [hor, Lt.val_take hx, ← hX.out])
      have hfit := or_fits hX0 hX1 (y := IntKind.u64.wrap (((t[k]'hlt').toNat : Int) * 2 ^ (8 * k))) (by rw [IntKind.wrap_u64]; omega) (by rw [IntKind.wrap_u64]; omega)
      have HF := Lib.hid hfit
      clear hx hf hbd hor hfit hX
      go_wp2_with fail
      exact ⟨⟨k + 1, _, by omega, by go_num, rfl, HF.out, hnx⟩, by simp [intOf]; omega⟩
    · obtain rfl : k = n := by omega
      have HE : Hid (X = Lt.val (((Vi.nums s).drop a).take k)) := Lib.hid (by rw [hX.out, ← HCUT.out, List.take_of_length_le (by rw [Vi.nums_len]; omega)])
      obtain ⟨⟨b0, b1, b2⟩, g0, g1, g2⟩ := blk_cells3 HB.out
      go_wp2_with fail
      go_region
      all_goals
        go_wp2_with fail
        exact bodyPost_ret (v := .tuple #[.int .u64 X, Sc s ((a + k : Nat) : Int) 0]) (by simp [results, Tryz.results128, go_sem, b0, b1, b2, hsB]) rfl ⟨by rw [HE.out], (by repeat (first | with_reducible exact Below.refl _ _ | with_reducible assumption | with_reducible refine Below.setCell ?_ (by first | (simp; done) | (simp; omega) | omega) _ | with_reducible refine Below.alloc ?_ (by first | exact Nat.le_refl _ | (simp; done) | (simp; omega) | omega) _ | with_reducible refine Below.drew ?_))⟩
end Go.Proofs.YtlfahmdndlmhpaaGreatDoor
namespace Go.Proofs.YtlfahmdndlmhpaaGreatDoor
open Go.RowKit

set_option maxHeartbeats 1000000 in
theorem lput_any (A : Option Addr) (m cap : Nat) (l : List Int) (B n : Nat) (x : Int) (w : World) (hr : Reads w B 1 A m (l.map (Value.int .u8))) (hm : m = l.length) (hB : B ≤ w.heap.size) (hl : m ≤ 1000) (h1 : 1 ≤ n) (h8 : n ≤ 8) (h0 : 0 ≤ x) (hx : x < 18446744073709551616) :
    Calls Tryz.prog 123 #[.slice A m cap, .int .i64 n, .int .u64 x] w (Row8Post w.heap.size (l ++ Lt.le n x) w) := by
  obtain ⟨i0, hi, iz0, iz1, iz2⟩ := info_parts u8_info
  have HR := Lib.hid hr
  have HM := Lib.hid hm
  have HLL : Hid (l.length ≤ 1000) := Lib.hid (by omega)
  clear hr hm
  go_enter Tryz.func123, Tryz.ntmps123
  go_wp2_with fail
  refine (clone8_any A m cap l B _ HR.out HM.out hB (by omega)).mono ?_
  rintro e w1 ⟨v, he, hT, hb1⟩
  subst he
  have HT := Lib.hid hT
  have HB1 := Lib.hid hb1
  clear hT hb1
  go_wp2_with fail
  refine (fits_any n h1 h8 _).mono ?_; rintro e w2 ⟨rfl, rfl⟩
  go_wp2_with fail
  go_loopw [2, 7, 15] (fun cx cv ci wr => ∃ (k : Nat) (y : Int) (ys : List Int), k ≤ n ∧ ci = .int .i64 k ∧ cx = .int .u64 y ∧ (0 ≤ y ∧ y < 18446744073709551616) ∧ Hid (Lt.le n x = ys ++ Lt.le (n - k) y) ∧ Hid (Row8 wr w.heap.size cv (l ++ ys)) ∧ Hid (ys.length = k) ∧ Below w.heap.size w wr) (fun _ _ ci _ => n - (intOf ci).toNat)
  case atStart => exact ⟨0, x, [], by omega, rfl, rfl, ⟨h0, hx⟩, Lib.hid rfl, Lib.hid (by rw [List.append_nil]; exact HT.out), Lib.hid rfl, HB1.out⟩
  case round =>
    obtain ⟨k, y, ys, hk, rfl, rfl, ⟨hy0, hy1⟩, hE, hR, hlen, hbl⟩ := hrel
    by_cases hlt : k < n
    · have hE2 : Hid (Lt.le n x = (ys ++ [y % 256]) ++ Lt.le (n - (k + 1)) (y / 256)) := Lib.hid (by
        rw [hE.out, show n - k = (n - (k + 1)) + 1 by omega, Lt.le]; simp)
      obtain ⟨q, hq⟩ : ∃ q, q = (l ++ ys).length := ⟨_, rfl⟩
      have hq2 : q ≤ 1010 := by rw [hq, List.length_append]; have h1 := hlen.out; have h2 := HLL.out; omega
      have HQ := Lib.hid hq
      have hO := hR.out
      unfold Row8 at hO
      rw [← hq] at hO
      have hlt2 := hO.lt
      clear hq hE
      go_wp2_with (at_builtin; go_must (refine wpList_append_own _ rfl (.tmp 17) (.tmp 20) _ rfl w.heap.size 5 i0 _ 1 1 Tryz.underlying111 hi iz0 iz1 iz2 rfl (by omega) _ q _ rfl (hO.alloc _) ⟨wr.heap.size, 0, none⟩ 1 1 [.int .u8 (y % 256)] rfl rfl ?c1 ?c2 ?c3 ?c4 ?c5 ?_))
      case c1 => intro j u hu; exact blk1 (heap_alloc_new wr _) j u hu
      case c2 => intro u hu; simp at hu; rcases hu with rfl; rfl
      case c3 => simp only [maxLen]; omega
      case c4 => omega
      case c5 => have := hbl.size; simp; omega
      intro v' w3 hown3 hgrow3 _
      have hb3 : Below w.heap.size w w3 := (hbl.alloc hbl.size _).grown hgrow3 (by have := hbl.size; simp; omega) (fun g hg => (hlt2 g hg).1)
      have hR3 : Hid (Row8 w3 w.heap.size v' (l ++ (ys ++ [y % 256]))) := Lib.hid (by
        have hl' : (l ++ (ys ++ [y % 256])).length = q + 1 := by rw [HQ.out]; simp; omega
        unfold Row8
        rw [hl']
        simpa using hown3)
      clear hown3 hgrow3 hlt2 hO
      go_wp2_with fail
      exact ⟨⟨k + 1, y / 256, ys ++ [y % 256], by omega, by go_num, rfl, by omega, hE2, hR3, Lib.hid (by rw [List.length_append]; have := hlen.out; simp; omega), hb3⟩, by simp [intOf]; omega⟩
    · obtain rfl : k = n := by omega
      have hz : Hid (Row8 wr w.heap.size u7 (l ++ Lt.le k x)) := Lib.hid (by
        have h := hE.out
        rw [Nat.sub_self, Lt.le, List.append_nil] at h
        rw [h]; exact hR.out)
      go_wp2_with fail
      go_ret
      exact ⟨_, rfl, hz.out, hbl⟩

theorem uns_any (v : Int) (w : World) (h0 : -2147483648 ≤ v) (h1 : v < 2147483648) :
    Calls Tryz.prog 124 #[.int .i64 v, .int .i64 4] w fun e w' => e = .returned (.tuple #[.int .u64 (v % 4294967296), .int .i64 0]) ∧ w = w' := by
  go_enter Tryz.func124, Tryz.ntmps124
  go_wp2_with fail
  refine (fits_any 4 (by omega) (by omega) _).mono ?_; rintro e w2 ⟨rfl, rfl⟩
  go_wp2_with fail
  go_ret2
  exact ⟨ret2 (by rw [IntKind.wrap_u64, IntKind.wrap_u64]; omega) rfl, rfl⟩
def Lt.sg (x : Int) : Int := if x < 2147483648 then x else x - 4294967296
theorem Lt.sg_eq {x : Int} (h0 : 0 ≤ x) (h1 : x < 4294967296) : wrap64 (x * 4294967296) / 4294967296 = Lt.sg x := by unfold wrap64 Lt.sg; split <;> omega
theorem sgn_any (x : Int) (w : World) (h0 : 0 ≤ x) (h1 : x < 4294967296) :
    Calls Tryz.prog 129 #[.int .u64 x, .int .i64 4] w fun e w' => e = .returned (.tuple #[.int .i64 (Lt.sg x), .int .i64 0]) ∧ w = w' := by
  go_enter Tryz.func129, Tryz.ntmps129
  go_wp2_with fail
  refine (fits_any 4 (by omega) (by omega) _).mono ?_; rintro e w2 ⟨rfl, rfl⟩
  go_wp2_with fail
  go_ret2
  exact ⟨ret2 (Lt.sg_eq h0 h1) rfl, rfl⟩
end Go.Proofs.YtlfahmdndlmhpaaGreatDoor
namespace Go.Proofs.YtlfahmdndlmhpaaGreatDoor
open Go.RowKit

theorem send_any (a b : Int) (h0 : 0 ≤ a) (h1 : 0 ≤ b) (h : a + b < 18446744073709551616) (w : World) :
    Calls Tryz.prog 60 #[.agg #[.int .u64 a, .int .u64 b]] w fun e w' => e = .returned (.int .u64 (a + b)) ∧ Below w.heap.size w w' := by
  go_enter Tryz.func60, Tryz.ntmps60
  go_wp2_with fail
  go_ret
  exact ⟨rfl, blk_new _ _⟩
theorem sfits_any (a b : Int) (h0 : 0 ≤ a) (h1 : 0 ≤ b) (h : a + b ≤ 1099511627776) (w : World) :
    Calls Tryz.prog 121 #[.agg #[.int .u64 a, .int .u64 b]] w fun e w' => e = .returned (.bool true) ∧ Below w.heap.size w w' := by
  have k0 : a ≤ 1099511627776 := by omega
  have k1 : b ≤ 1099511627776 := by omega
  go_enter Tryz.func121, Tryz.ntmps121
  go_wp2_with fail
  refine (send_any a b h0 h1 (by omega) _).mono ?_; rintro e w1 ⟨rfl, hb⟩
  have hw := (blk_one hb).2.2
  clear hb
  go_wp2_with fail
  go_ret
  exact ⟨rfl, hw⟩
theorem sections_any (r0 r1 m0 m1 l0 l1 d0 d1 a e c lo hi : Int) (w : World) :
    Calls Tryz.prog 86 #[.agg #[.int .u64 r0, .int .u64 r1, .int .u64 m0, .int .u64 m1, .int .u64 l0, .int .u64 l1, .int .u64 d0, .int .u64 d1, .int .u64 a, .int .u64 e, .int .u64 c, .bool true, .int .u8 1, .int .u8 1, .int .u8 0, .int .i64 lo, .int .i64 hi, .int .i64 (-1800000000), .int .i64 (-850511287), .int .i64 1800000000, .int .i64 850511287, .int .i64 lo, .int .i64 0, .int .i64 0]] w fun x w' => x = .returned (.agg #[.int .u64 r0, .int .u64 r1, .int .u64 m0, .int .u64 m1, .int .u64 l0, .int .u64 l1, .int .u64 d0, .int .u64 d1]) ∧ Below w.heap.size w w' := by
  go_enter Tryz.func86, Tryz.ntmps86
  go_wp2_with fail
  exact bodyPost_ret (v := .agg #[.int .u64 r0, .int .u64 r1, .int .u64 m0, .int .u64 m1, .int .u64 l0, .int .u64 l1, .int .u64 d0, .int .u64 d1]) (by simp [results, Tryz.results86, go_sem]) rfl ⟨rfl, (by repeat (first | with_reducible exact Below.refl _ _ | with_reducible assumption | with_reducible refine Below.setCell ?_ (by first | (simp; done) | (simp; omega) | omega) _ | with_reducible refine Below.alloc ?_ (by first | exact Nat.le_refl _ | (simp; done) | (simp; omega) | omega) _ | with_reducible refine Below.drew ?_))⟩
theorem within_any (lo hi x y z : Int) (g : Nat) (t : TypeId) (w : World) (hb : w.heap[g]? = some (.cells #[.int .i64 x, .int .i64 y, .int .i64 z] t (0, 0))) (hx : lo ≤ x ∧ x ≤ hi) (hy : lo ≤ y ∧ y ≤ hi) (hz : lo ≤ z ∧ z ≤ hi) :
    Calls Tryz.prog 122 #[.int .i64 lo, .int .i64 hi, .slice (some ⟨g, 0, none⟩) 3 3] w fun x w' => x = .returned (.bool true) ∧ w = w' := by
  obtain ⟨⟨c0, c1, c2⟩, _⟩ := blk_cells3 hb
  clear hb
  go_enter Tryz.func122, Tryz.ntmps122
  go_wp2_with fail
  go_loop [8, 11] (fun _ ci => ∃ k : Nat, k ≤ 3 ∧ ci = .int .i64 k) (fun _ ci => 3 - (intOf ci).toNat)
  case atStart => exact ⟨0, by omega, rfl⟩
  case round =>
    obtain ⟨k, hk, rfl⟩ := hrel
    rcases (show k = 0 ∨ k = 1 ∨ k = 2 ∨ k = 3 by omega) with rfl | rfl | rfl | rfl
    · go_wp2_with fail
      exact ⟨⟨1, by omega, rfl⟩, by simp [intOf]⟩
    · go_wp2_with fail
      exact ⟨⟨2, by omega, rfl⟩, by simp [intOf]⟩
    · go_wp2_with fail
      exact ⟨⟨3, by omega, rfl⟩, by simp [intOf]⟩
    · go_wp2_with fail
      go_ret
      exact ⟨rfl, rfl⟩
set_option maxRecDepth 100000 in
set_option maxHeartbeats 2000000 in
theorem hcheck_any (r0 r1 m0 m1 l0 l1 d0 d1 a e c lo hi : Int) (hr : 0 ≤ r0 ∧ 0 ≤ r1 ∧ r0 + r1 ≤ 1099511627776) (hm : 0 ≤ m0 ∧ 0 ≤ m1 ∧ m0 + m1 ≤ 1099511627776) (hl : 0 ≤ l0 ∧ 0 ≤ l1 ∧ l0 + l1 ≤ 1099511627776) (hd : 0 ≤ d0 ∧ 0 ≤ d1 ∧ d0 + d1 ≤ 1099511627776)
    (h0 : 0 ≤ lo) (h1 : lo ≤ hi) (h2 : hi ≤ 26) (w : World) :
    Calls Tryz.prog 85 #[.agg #[.int .u64 r0, .int .u64 r1, .int .u64 m0, .int .u64 m1, .int .u64 l0, .int .u64 l1, .int .u64 d0, .int .u64 d1, .int .u64 a, .int .u64 e, .int .u64 c, .bool true, .int .u8 1, .int .u8 1, .int .u8 0, .int .i64 lo, .int .i64 hi, .int .i64 (-1800000000), .int .i64 (-850511287), .int .i64 1800000000, .int .i64 850511287, .int .i64 lo, .int .i64 0, .int .i64 0]] w fun x w' => x = .returned (.int .i64 0) ∧ Below w.heap.size w w' := by
  have HR := Lib.hid hr
  have HM := Lib.hid hm
  have HL := Lib.hid hl
  have HD := Lib.hid hd
  have H0 := Lib.hid h0
  have H1 := Lib.hid h1
  have H2 := Lib.hid h2
  clear hr hm hl hd h0 h1 h2
  have i0 : ∀ w, (Instr.index 120 (.agg #[.int .u64 r0, .int .u64 r1, .int .u64 m0, .int .u64 m1, .int .u64 l0, .int .u64 l1, .int .u64 d0, .int .u64 d1]) (.int .i64 0)).run Tryz.prog w = .ok (.agg #[.int .u64 r0, .int .u64 r1]) w := fun _ => by rfl
  have i1 : ∀ w, (Instr.index 120 (.agg #[.int .u64 r0, .int .u64 r1, .int .u64 m0, .int .u64 m1, .int .u64 l0, .int .u64 l1, .int .u64 d0, .int .u64 d1]) (.int .i64 1)).run Tryz.prog w = .ok (.agg #[.int .u64 m0, .int .u64 m1]) w := fun _ => by rfl
  have i2 : ∀ w, (Instr.index 120 (.agg #[.int .u64 r0, .int .u64 r1, .int .u64 m0, .int .u64 m1, .int .u64 l0, .int .u64 l1, .int .u64 d0, .int .u64 d1]) (.int .i64 2)).run Tryz.prog w = .ok (.agg #[.int .u64 l0, .int .u64 l1]) w := fun _ => by rfl
  have i3 : ∀ w, (Instr.index 120 (.agg #[.int .u64 r0, .int .u64 r1, .int .u64 m0, .int .u64 m1, .int .u64 l0, .int .u64 l1, .int .u64 d0, .int .u64 d1]) (.int .i64 3)).run Tryz.prog w = .ok (.agg #[.int .u64 d0, .int .u64 d1]) w := fun _ => by rfl
  go_enter Tryz.func85, Tryz.ntmps85
  go_wp2_with (refine wpList_load_row rfl 65 (.tmp 1) rfl _ rfl _ _ _ _ (heap_alloc_new w _) Tryz.underlying65 rfl (by kernel_rfl) ?_)
  refine (sections_any r0 r1 m0 m1 l0 l1 d0 d1 a e c lo hi _).mono ?_; rintro x w1 ⟨rfl, hb⟩
  have HB := Lib.hid (blk_one hb).1
  have hw := (blk_one hb).2.2
  clear hb
  go_wp2_with fail
  go_loopw [4, 7] (fun _ ci wr => ∃ k : Nat, k ≤ 4 ∧ ci = .int .i64 k ∧ Hid (wr.heap[w.heap.size]? = some (.cells #[.int .u64 r0, .int .u64 r1, .int .u64 m0, .int .u64 m1, .int .u64 l0, .int .u64 l1, .int .u64 d0, .int .u64 d1, .int .u64 a, .int .u64 e, .int .u64 c, .bool true, .int .u8 1, .int .u8 1, .int .u8 0, .int .i64 lo, .int .i64 hi, .int .i64 (-1800000000), .int .i64 (-850511287), .int .i64 1800000000, .int .i64 850511287, .int .i64 lo, .int .i64 0, .int .i64 0] 65 (0, 0))) ∧ Below w.heap.size w wr) (fun _ ci _ => 4 - (intOf ci).toNat)
  case atStart => exact ⟨0, by omega, rfl, HB, hw⟩
  case round =>
    obtain ⟨k, hk, rfl, HH, hbl⟩ := hrel
    rcases (show k = 0 ∨ k = 1 ∨ k = 2 ∨ k = 3 ∨ k = 4 by omega) with rfl | rfl | rfl | rfl | rfl
    · go_wp2_with fail
      refine (sfits_any r0 r1 HR.out.1 HR.out.2.1 HR.out.2.2 _).mono ?_; rintro x w2 ⟨rfl, hb⟩
      have hw2 := bthen2 (blk_one hb).2.2 hbl
      have HH2 := Lib.hid (blk_keep2 (blk_one hb).2.2 HH.out)
      clear hb
      go_wp2_with fail
      exact ⟨⟨1, by omega, rfl, HH2, hw2⟩, by simp [intOf]⟩
    · go_wp2_with fail
      refine (sfits_any m0 m1 HM.out.1 HM.out.2.1 HM.out.2.2 _).mono ?_; rintro x w2 ⟨rfl, hb⟩
      have hw2 := bthen2 (blk_one hb).2.2 hbl
      have HH2 := Lib.hid (blk_keep2 (blk_one hb).2.2 HH.out)
      clear hb
      go_wp2_with fail
      exact ⟨⟨2, by omega, rfl, HH2, hw2⟩, by simp [intOf]⟩
    · go_wp2_with fail
      refine (sfits_any l0 l1 HL.out.1 HL.out.2.1 HL.out.2.2 _).mono ?_; rintro x w2 ⟨rfl, hb⟩
      have hw2 := bthen2 (blk_one hb).2.2 hbl
      have HH2 := Lib.hid (blk_keep2 (blk_one hb).2.2 HH.out)
      clear hb
      go_wp2_with fail
      exact ⟨⟨3, by omega, rfl, HH2, hw2⟩, by simp [intOf]⟩
    · go_wp2_with fail
      refine (sfits_any d0 d1 HD.out.1 HD.out.2.1 HD.out.2.2 _).mono ?_; rintro x w2 ⟨rfl, hb⟩
      have hw2 := bthen2 (blk_one hb).2.2 hbl
      have HH2 := Lib.hid (blk_keep2 (blk_one hb).2.2 HH.out)
      clear hb
      go_wp2_with fail
      exact ⟨⟨4, by omega, rfl, HH2, hw2⟩, by simp [intOf]⟩
    · have hz := blk_lt HH.out
      have hz1 : w.heap.size < wr.heap.size + 1 := by omega
      have hz2 : w.heap.size < wr.heap.size + 2 := by omega
      have hz3 : w.heap.size < wr.heap.size + 1 + 1 := by omega
      have c12 : wr.cell? ⟨w.heap.size, 12, none⟩ = some (.int .u8 1) := cell_of_row wr w.heap.size 12 _ _ _ HH.out
      have c13 : wr.cell? ⟨w.heap.size, 13, none⟩ = some (.int .u8 1) := cell_of_row wr w.heap.size 13 _ _ _ HH.out
      have c14 : wr.cell? ⟨w.heap.size, 14, none⟩ = some (.int .u8 0) := cell_of_row wr w.heap.size 14 _ _ _ HH.out
      have c15 : wr.cell? ⟨w.heap.size, 15, none⟩ = some (.int .i64 lo) := cell_of_row wr w.heap.size 15 _ _ _ HH.out
      have c16 : wr.cell? ⟨w.heap.size, 16, none⟩ = some (.int .i64 hi) := cell_of_row wr w.heap.size 16 _ _ _ HH.out
      have c17 : wr.cell? ⟨w.heap.size, 17, none⟩ = some (.int .i64 (-1800000000)) := cell_of_row wr w.heap.size 17 _ _ _ HH.out
      have c18 : wr.cell? ⟨w.heap.size, 18, none⟩ = some (.int .i64 (-850511287)) := cell_of_row wr w.heap.size 18 _ _ _ HH.out
      have c19 : wr.cell? ⟨w.heap.size, 19, none⟩ = some (.int .i64 1800000000) := cell_of_row wr w.heap.size 19 _ _ _ HH.out
      have c20 : wr.cell? ⟨w.heap.size, 20, none⟩ = some (.int .i64 850511287) := cell_of_row wr w.heap.size 20 _ _ _ HH.out
      have c21 : wr.cell? ⟨w.heap.size, 21, none⟩ = some (.int .i64 lo) := cell_of_row wr w.heap.size 21 _ _ _ HH.out
      have c22 : wr.cell? ⟨w.heap.size, 22, none⟩ = some (.int .i64 0) := cell_of_row wr w.heap.size 22 _ _ _ HH.out
      have c23 : wr.cell? ⟨w.heap.size, 23, none⟩ = some (.int .i64 0) := cell_of_row wr w.heap.size 23 _ _ _ HH.out
      have hll : lo ≤ hi := H1.out
      go_wp2_with fail
      refine (within_any 0 26 lo hi lo _ _ _ (heap_alloc_new _ _) ⟨H0.out, Int.le_trans H1.out H2.out⟩ ⟨Int.le_trans H0.out H1.out, H2.out⟩ ⟨H0.out, Int.le_trans H1.out H2.out⟩).mono ?_; rintro x w2 ⟨rfl, rfl⟩
      go_wp2_with fail
      refine (within_any (-1800000000) 1800000000 (-1800000000) 1800000000 0 _ _ _ (heap_at (by simp)) (by omega) (by omega) (by omega)).mono ?_; rintro x w2 ⟨rfl, rfl⟩
      go_wp2_with fail
      refine (within_any (-900000000) 900000000 (-850511287) 850511287 0 _ _ _ (heap_at (by simp)) (by omega) (by omega) (by omega)).mono ?_; rintro x w2 ⟨rfl, rfl⟩
      go_wp2_with fail
      go_ret
      exact ⟨rfl, ((hbl.alloc hbl.size _).alloc (by have := hbl.size; simp; omega) _).alloc (by have := hbl.size; simp; omega) _⟩
end Go.Proofs.YtlfahmdndlmhpaaGreatDoor
