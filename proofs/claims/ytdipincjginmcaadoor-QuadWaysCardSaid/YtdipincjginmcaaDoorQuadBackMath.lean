/- Keys and tiles, back and forth. -/
import Derived.Test.YtdipincjginmcaaDoorQuadAwake
namespace Go.Proofs.YtdipincjginmcaaDoor
open Go.RowKit

theorem back_key {z x y : Int} (h : Cv.okB z x y = true) {e : Ending} (hp : ParseR (Qs.kt (Qc.key (z, x, y))) e) : e = .returned (.tuple #[.agg #[.int .i64 z, .int .i64 x, .int .i64 y], .int .i64 0]) := by
  have hl := Qc.key_len (t := (z, x, y)) (by exact h)
  obtain ⟨⟨hz0, hz1⟩, hx0, hx1, hy0, hy1⟩ := Cv.ok_in h
  have hq := parse_key (Qc.key_lt _) hl hp
  unfold Qc.key at hq
  rw [Qk.kd_len, Qk.pt_kd _ _ _ (by show x.toNat < 2 ^ z.toNat; omega) (by show y.toNat < 2 ^ z.toNat; omega)] at hq
  simp only [Int.toNat_of_nonneg hz0, Int.toNat_of_nonneg hx0, Int.toNat_of_nonneg hy0] at hq
  exact hq
theorem key_size {z x y : Int} (h : Cv.okB z x y = true) : ((Qs.kt (Qc.key (z, x, y))).size : Int) = z := by
  obtain ⟨⟨hz0, hz1⟩, _⟩ := Cv.ok_in h
  rw [Qs.kt_size]; unfold Qc.key; rw [Qk.kd_len]; exact Int.toNat_of_nonneg hz0
theorem kt_prefix {K S : List Nat} (hK : ∀ d ∈ K, d < 4) (hS : ∀ d ∈ S, d < 4) : Lib.hasPrefix (Qs.kt S).data.toList (Qs.kt K).data.toList = true ↔ K <+: S := by
  unfold Lib.hasPrefix
  rw [List.isPrefixOf_iff_prefix, Qs.kt_bytes, Qs.kt_bytes]
  constructor
  · intro h
    have hl := h.length_le
    simp only [List.length_map] at hl
    have e := List.prefix_iff_eq_take.1 h
    rw [List.length_map, ← List.map_take] at e
    refine List.prefix_iff_eq_take.2 ?_
    have e2 := congrArg (List.map (fun b : UInt8 => b.toNat - 48)) e
    have hm : ∀ l : List Nat, (∀ d ∈ l, d < 4) → (l.map (fun d => UInt8.ofNat (48 + d))).map (fun b : UInt8 => b.toNat - 48) = l := by
      intro l hl
      rw [List.map_map]
      refine (List.map_congr_left (g := id) fun d hd => ?_).trans (List.map_id l)
      have := Qs.byte_dig (hl d hd)
      show (UInt8.ofNat (48 + d)).toNat - 48 = id d
      rw [this]; simp
    rw [hm K hK, hm _ (fun d hd => hS d (List.mem_of_mem_take hd))] at e2
    exact e2
  · rintro ⟨T, rfl⟩
    rw [List.map_append]
    exact List.prefix_append _ _
theorem key_prefix {z x y z' x' y' : Int} (h : Cv.okB z x y = true) (h' : Cv.okB z' x' y' = true) :
    Lib.hasPrefix (Qs.kt (Qc.key (z', x', y'))).data.toList (Qs.kt (Qc.key (z, x, y))).data.toList = Cv.ovB z x y z' x' y' := by
  obtain ⟨⟨hz0, hz1⟩, hx0, hx1, hy0, hy1⟩ := Cv.ok_in h
  obtain ⟨⟨hz0', hz1'⟩, hx0', hx1', hy0', hy1'⟩ := Cv.ok_in h'
  have hp := kt_prefix (Qc.key_lt (z, x, y)) (Qc.key_lt (z', x', y'))
  have hi := Qk.over_iff (n := z.toNat) (m := z'.toNat) (x := x.toNat) (y := y.toNat) (x' := x'.toNat) (y' := y'.toNat) (by omega) (by omega) (by omega) (by omega)
  rw [Bool.eq_iff_iff, hp]
  show Qk.kd z.toNat x.toNat y.toNat <+: Qk.kd z'.toNat x'.toNat y'.toNat ↔ _
  rw [← hi]
  unfold Cv.ovB Cv.teq
  rw [h, h']
  have hzz : (z' - z).toNat = z'.toNat - z.toNat := by omega
  have ex : x' / 2 ^ (z' - z).toNat = ((x'.toNat / 2 ^ (z'.toNat - z.toNat) : Nat) : Int) := by
    rw [hzz]; push_cast; rw [Int.toNat_of_nonneg hx0']
  have ey : y' / 2 ^ (z' - z).toNat = ((y'.toNat / 2 ^ (z'.toNat - z.toNat) : Nat) : Int) := by
    rw [hzz]; push_cast; rw [Int.toNat_of_nonneg hy0']
  rw [ex, ey]
  generalize x'.toNat / 2 ^ (z'.toNat - z.toNat) = A
  generalize y'.toNat / 2 ^ (z'.toNat - z.toNat) = B
  clear hp hi ex ey
  simp only [Bool.true_and, Bool.and_eq_true, decide_eq_true_eq, beq_iff_eq]
  constructor
  · rintro ⟨h1, h2, h3⟩
    refine ⟨by omega, ?_⟩
    refine ⟨⟨?_, ?_⟩, ?_⟩ <;> first | trivial | omega
  · rintro ⟨h1, ⟨h2, h3⟩, h4⟩
    refine ⟨?_, ?_, ?_⟩ <;> omega
theorem key_parse {s : ByteArray} (h : Qs.pc s = 0) {e : Ending} (he : KeyR (Qs.pz s) (Qs.px s) (Qs.py s) e) : e = .returned (.tuple #[.string s, .int .i64 0]) := by
  have hg : Qs.good s = true ∧ s.size ≤ 26 := by
    unfold Qs.pc at h
    split at h
    · split at h
      · simp at h
      · exact ⟨by assumption, by omega⟩
    · simp at h
  have hlt := Qk.pt_lt (Qs.dg s) (Qs.dg_lt hg.1)
  rw [Qs.dg_len] at hlt
  have hok : Cv.okB (Qs.pz s) (Qs.px s) (Qs.py s) = true := by
    unfold Cv.okB Qs.pz Qs.px Qs.py
    rw [if_pos h, if_pos h, if_pos h, Int.toNat_natCast]
    refine decide_eq_true ⟨by omega, by omega, by omega, ?_, by omega, ?_⟩
    · exact Int.ofNat_lt.2 hlt.1
    · exact Int.ofNat_lt.2 hlt.2
  have := key_text hok he
  rw [this]
  unfold Qc.key Qs.pz Qs.px Qs.py
  rw [if_pos h, if_pos h, if_pos h]
  simp only [Int.toNat_natCast]
  have hk := Qk.kd_pt (Qs.dg s) (Qs.dg_lt hg.1)
  rw [Qs.dg_len] at hk
  rw [hk, Qs.dg_kt hg.1]
theorem parse_goods {s : ByteArray} (h : Qs.pc s = 0) {e : Ending} (he : ParseR s e) : e = .returned (.tuple #[.agg #[.int .i64 (Qs.pz s), .int .i64 (Qs.px s), .int .i64 (Qs.py s)], .int .i64 0]) := by
  unfold ParseR at he; rw [h] at he; exact he
theorem parse_bads {s : ByteArray} (h : Qs.pc s ≠ 0) {e : Ending} (he : ParseR s e) : e = .returned (.tuple #[.agg #[.int .i64 0, .int .i64 0, .int .i64 0], .int .i64 (Qs.pc s)]) := by
  unfold ParseR Qs.pz Qs.px Qs.py at he; rw [if_neg h, if_neg h, if_neg h] at he; exact he
end Go.Proofs.YtdipincjginmcaaDoor
