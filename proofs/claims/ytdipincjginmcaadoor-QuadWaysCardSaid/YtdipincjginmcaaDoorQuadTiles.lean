/- The walk of the law's tiles, and of the document's Way. -/
import Derived.Test.YtdipincjginmcaaDoorQuadAwake
namespace Go.Proofs.YtdipincjginmcaaDoor
open Go.RowKit

set_option maxHeartbeats 4000000 in
theorem tiles_any (A : Option Addr) (n cap : Nat) (L : List Tl) (B : Nat) (w : World) (hr : Reads w B 3 A n (tcells L)) (hn : n = L.length) (hB : B ≤ w.heap.size) (hm : n ≤ 1000) :
    Calls Tryd.prog 17 #[.slice A n cap] w fun e w' => SlicePost 30 L w e w' := by
  have HR := Lib.hid hr
  have HN := Lib.hid hn
  clear hr hn
  obtain ⟨i0, hi, iz0, iz1, iz2⟩ := info_parts tile_info
  go_enter Tryd.func17, Tryd.ntmps17
  go_wp2_with fail
  go_loopw [3, 4] (fun cv ci wr => ∃ k : Nat, k ≤ n ∧ ci = .int .i64 k ∧ Hid (wr.ownsRow w.heap.size 30 3 cv k (tcells (L.take k))) ∧ Below w.heap.size w wr) (fun _ ci _ => n - (intOf ci).toNat)
  case atStart => exact ⟨0, by omega, rfl, Lib.hid (World.ownsRow_nil _ _ _ _), Below.refl _ _⟩
  case round =>
    obtain ⟨k, hk, rfl, hT, hw⟩ := hrel
    by_cases hlt : k < n
    · have hlt' : k < L.length := by rw [← HN.out]; exact hlt
      obtain ⟨g, off, hA, hgB⟩ := HR.out.tplain (by omega) HN.out
      have HR' := HR.out
      rw [hA] at HR'
      subst hA
      obtain ⟨k0, k1, k2⟩ := ((HR'.more hB).below hw).tile HN.out k hlt'
      have hts := take_snoc_tiles L k hlt'
      obtain ⟨t, ht⟩ : ∃ t, t = L[k]'hlt' := ⟨_, rfl⟩
      rw [← ht] at k0 k1 k2 hts
      have HSN := Lib.hid hts
      obtain ⟨z, x, y⟩ := t
      clear ht hts HR'
      have hO2 := hT.out
      have hlt2 := hO2.lt
      have hS : w.heap.size ≤ wr.heap.size := hw.size
      go_wp2_with (at_builtin; go_must (refine wpList_append_own _ rfl (.tmp 11) (.tmp 16) _ rfl w.heap.size 30 i0 _ 3 24 Tryd.underlying43 hi iz0 iz1 iz2 rfl (by omega) _ k (tcells (L.take k)) rfl (hO2.alloc _) ⟨wr.heap.size, 0, none⟩ 1 1 [.int .i64 z, .int .i64 x, .int .i64 y] rfl rfl ?c1 ?c2 ?c3 ?c4 ?c5 ?_))
      case c2 => exact ⟨rfl, rfl, rfl⟩
      case c3 => first | omega | (simp only [maxLen]; omega)
      case c4 => omega
      case c5 => first | omega | (simp; omega)
      intro v' w3 hown3 hgrow3 _
      have hb3 : Below w.heap.size w w3 := (hw.alloc hS _).grown hgrow3 (by simp; omega) (fun g hg => (hlt2 g hg).1)
      have hT3 : Hid (w3.ownsRow w.heap.size 30 3 v' (k + 1) (tcells (L.take (k + 1)))) := Lib.hid (by rw [HSN.out]; exact hown3)
      clear hown3 hgrow3 hlt2 hO2
      go_wp2_with fail
      exact ⟨⟨k + 1, by omega, by go_num, hT3, hb3⟩, by simp [intOf]; omega⟩
    · obtain rfl : k = n := by omega
      have hall : L.take k = L := by rw [HN.out]; exact List.take_length
      go_wp2_with fail
      go_ret
      exact ⟨_, rfl, by have h := hT.out; rw [hall] at h; unfold TilesAt; rw [← HN.out]; exact h, hw⟩
end Go.Proofs.YtdipincjginmcaaDoor
