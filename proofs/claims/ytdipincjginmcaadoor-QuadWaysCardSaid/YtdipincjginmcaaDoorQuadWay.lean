/- The walk of the program's Way. -/
import Derived.Test.YtdipincjginmcaaDoorQuadShared
import Derived.Deep.AppendLies
import Derived.Deep.DeepMust
namespace Go.Proofs.YtdipincjginmcaaDoor
open Go.RowKit

abbrev Tl := Int × Int × Int
def Qw.at (z x y n : Nat) : Tl := ((n : Int), ((x / 2 ^ (z - n) : Nat) : Int), ((y / 2 ^ (z - n) : Nat) : Int))
def Qw.upto (z x y k : Nat) : List Tl := (List.range k).map (Qw.at z x y)
def Qw.way (z x y : Int) : List Tl := if Cv.okB z x y = true then Qw.upto z.toNat x.toNat y.toNat (z.toNat + 1) else []
theorem Qw.upto_succ (z x y k : Nat) : Qw.upto z x y (k + 1) = Qw.upto z x y k ++ [Qw.at z x y k] := by simp [Qw.upto, List.range_succ]
theorem Qw.upto_len (z x y k : Nat) : (Qw.upto z x y k).length = k := by simp [Qw.upto]
theorem Qs.kt_ext (l : List Nat) (k : Nat) : (Qs.kt l).extract 0 k = Qs.kt (l.take k) := by
  unfold Qs.kt
  apply ByteArray.ext
  simp [List.map_take]
theorem parse_key {l : List Nat} {e : Ending} (h : ∀ d ∈ l, d < 4) (hl : l.length ≤ 26) (hp : ParseR (Qs.kt l) e) : e = .returned (.tuple #[.agg #[.int .i64 (l.length : Int), .int .i64 ((Qk.pt l).1 : Int), .int .i64 ((Qk.pt l).2 : Int)], .int .i64 0]) := by
  have hc : Qs.pc (Qs.kt l) = 0 := by unfold Qs.pc; rw [if_pos (Qs.kt_good h), if_neg (by rw [Qs.kt_size]; omega)]
  unfold ParseR Qs.pz Qs.px Qs.py at hp
  rw [hc, if_pos rfl, if_pos rfl, if_pos rfl, Qs.kt_dg h, Qs.kt_size] at hp
  exact hp
theorem pt_begin {z x y n : Nat} (hx : x < 2 ^ z) (hy : y < 2 ^ z) (hn : n ≤ z) : Qk.pt ((Qk.kd z x y).take n) = (x / 2 ^ (z - n), y / 2 ^ (z - n)) := by
  have hp : 2 ^ z = 2 ^ n * 2 ^ (z - n) := by rw [← Nat.pow_add]; congr 1; omega
  rw [Qk.kd_take z x y n hn, Qk.pt_kd]
  · exact Nat.div_lt_of_lt_mul (by rw [Nat.mul_comm, ← hp]; exact hx)
  · exact Nat.div_lt_of_lt_mul (by rw [Nat.mul_comm, ← hp]; exact hy)

set_option maxRecDepth 100000 in
set_option maxHeartbeats 2000000 in
theorem way_ok (z x y : Nat) (w : World) (hz : z ≤ 26) (hx : x < 2 ^ z) (hy : y < 2 ^ z) :
    Calls Tryd.prog 21 #[.agg #[.int .i64 (z : Int), .int .i64 (x : Int), .int .i64 (y : Int)]] w fun e w' => SlicePost 30 (Qw.upto z x y (z + 1)) w e w' := by
  obtain ⟨i0, hi, iz0, iz1, iz2⟩ := info_parts tile_info
  have HK := Lib.hid (fun w => key_ok z x y w hz hx hy)
  have hsz : (Qs.kt (Qk.kd z x y)).size = z := by rw [Qs.kt_size, Qk.kd_len]
  have hpar : ∀ n, n ≤ z → ∀ e, ParseR ((Qs.kt (Qk.kd z x y)).extract 0 n) e → e = .returned (.tuple #[.agg #[.int .i64 (n : Int), .int .i64 ((x / 2 ^ (z - n) : Nat) : Int), .int .i64 ((y / 2 ^ (z - n) : Nat) : Int)], .int .i64 0]) := fun n hn e hp => by
    rw [Qs.kt_ext] at hp
    have h := parse_key (fun d hd => Qk.kd_lt z x y d (List.mem_of_mem_take hd)) (by rw [List.length_take, Qk.kd_len]; omega) hp
    rw [pt_begin hx hy hn, List.length_take, Qk.kd_len, Nat.min_eq_left hn] at h
    exact h
  obtain ⟨K, hK⟩ : ∃ K, K = Qs.kt (Qk.kd z x y) := ⟨_, rfl⟩
  rw [← hK] at HK hsz hpar
  have HP := Lib.hid hpar
  have hz1 : (z : Int) ≤ 26 := by omega
  clear hpar hK hx hy
  go_enter Tryd.func21, Tryd.ntmps21
  go_wp2_with fail
  refine (HK.out _).mono ?_; rintro e w1 ⟨rfl, hb⟩
  have hw := (blk_one hb).2.2
  clear hb
  go_wp2_with fail
  go_loopw [5, 19] (fun cv ci wr => ∃ k : Nat, k ≤ z + 1 ∧ ci = .int .i64 k ∧ Hid (wr.ownsRow w.heap.size 30 3 cv k (tcells (Qw.upto z x y k))) ∧ Below w.heap.size w wr) (fun _ ci _ => z + 1 - (intOf ci).toNat)
  case atStart => exact ⟨0, by omega, rfl, Lib.hid (World.ownsRow_nil _ _ _ _), hw⟩
  case round =>
    clear hw
    obtain ⟨k, hk, rfl, hT, hw⟩ := hrel
    by_cases hlt : k ≤ z
    · have b2 : (k : Int) < (z : Int) + 1 := by omega
      have b3 : (k : Int) ≤ (z : Int) := by omega
      go_wp2_with fail
      refine (parse_any _ (by simp [maxLen]; omega) _).mono ?_; rintro e w2 ⟨he, hb⟩
      obtain rfl := HP.out k hlt _ he
      replace hw := bthen2 hb hw
      replace hT := Lib.hid (ownsRow_keep hT.out hb)
      have hlt2 := hT.out.lt
      have hS : w.heap.size ≤ w2.heap.size := hw.size
      have hsn := Qw.upto_succ z x y k
      have HSN := Lib.hid hsn
      obtain ⟨X, hX⟩ : ∃ X : Int, X = ((x / 2 ^ (z - k) : Nat) : Int) := ⟨_, rfl⟩
      obtain ⟨Y, hY⟩ : ∃ Y : Int, Y = ((y / 2 ^ (z - k) : Nat) : Int) := ⟨_, rfl⟩
      rw [← hX, ← hY]
      have HX := Lib.hid hX
      have HY := Lib.hid hY
      clear hsn he hb hX hY
      go_wp2_with (at_builtin; go_must (refine wpList_append_own _ rfl (.tmp 29) (.tmp 31) _ rfl w.heap.size 30 i0 _ 3 24 Tryd.underlying43 hi iz0 iz1 iz2 rfl (by omega) _ k (tcells (Qw.upto z x y k)) rfl ((hT.out.alloc _).alloc _) ⟨w2.heap.size + 1, 0, none⟩ 1 1 [.int .i64 (k : Int), .int .i64 X, .int .i64 Y] rfl (by simp; done) ?c1 ?c2 ?c3 ?c4 ?c5 ?_))
      case c1 => exact blk_news3 (by have h := heap_alloc_new (w2.alloc (.cells #[.int .i64 (k : Int), .int .i64 X, .int .i64 Y] 30)) (.cells #[.int .i64 (k : Int), .int .i64 X, .int .i64 Y] 30); rw [World.size_alloc] at h; exact h)
      case c2 => intro u hu; simp at hu; rcases hu with rfl | rfl | rfl <;> rfl
      case c3 => simp only [maxLen]; omega
      case c4 => omega
      case c5 => first | omega | (simp; omega)
      intro v' w3 hown3 hgrow3 _
      have hb3 : Below w.heap.size w w3 := ((hw.alloc hS _).alloc (by simp; omega) _).grown hgrow3 (by simp; omega) (fun g hg => (hlt2 g hg).1)
      have hT3 : Hid (w3.ownsRow w.heap.size 30 3 v' (k + 1) (tcells (Qw.upto z x y (k + 1)))) := Lib.hid (by rw [HSN.out, tcells_snoc]; unfold Qw.at; rw [← HX.out, ← HY.out]; exact hown3)
      clear hown3 hgrow3 hlt2
      go_wp2_with fail
      exact ⟨⟨k + 1, by omega, by go_num, hT3, hb3⟩, by simp [intOf]; omega⟩
    · obtain rfl : k = z + 1 := by omega
      have b2 : ¬ ((z + 1 : Nat) : Int) < (z : Int) + 1 := by omega
      go_wp2_with fail
      go_ret
      exact ⟨_, rfl, by have h := hT.out; unfold TilesAt; rw [Qw.upto_len]; exact h, hw⟩

theorem way_any (z x y : Int) (w : World) :
    Calls Tryd.prog 21 #[.agg #[.int .i64 z, .int .i64 x, .int .i64 y]] w fun e w' => SlicePost 30 (Qw.way z x y) w e w' := by
  rcases Bool.eq_false_or_eq_true (Cv.okB z x y) with h | h
  · obtain ⟨⟨hz0, hz1⟩, hx0, hx1, hy0, hy1⟩ := Cv.ok_in h
    have hk := way_ok z.toNat x.toNat y.toNat w (by omega) (by omega) (by omega)
    rw [Int.toNat_of_nonneg hz0, Int.toNat_of_nonneg hx0, Int.toNat_of_nonneg hy0] at hk
    unfold Qw.way
    rw [if_pos h]
    exact hk
  · have hpe : (Cv.pe z x y != 0) = true := by rcases Cv.pe_not h with q | q <;> rw [q] <;> rfl
    have hway : Qw.way z x y = [] := by unfold Qw.way; rw [if_neg (by simp [h])]
    have hkr : ∀ e, KeyR z x y e → e = .returned (.tuple #[.string ⟨#[]⟩, .int .i64 (Cv.pe z x y)]) := fun e he => by unfold KeyR Qs.key at he; rw [if_neg (by simp [h])] at he; exact he
    have HKR := Lib.hid hkr
    rw [hway]
    clear h hway hkr
    go_enter Tryd.func21, Tryd.ntmps21
    go_wp2_with fail
    refine (key_any _ _ _ _).mono ?_; rintro e w1 ⟨he, hb⟩
    obtain rfl := HKR.out _ he
    have hw := (blk_one hb).2.2
    clear hb he
    go_wp2_with fail
    go_ret
    exact ⟨_, rfl, World.ownsRow_nil _ _ _ _, hw⟩
end Go.Proofs.YtdipincjginmcaaDoor
