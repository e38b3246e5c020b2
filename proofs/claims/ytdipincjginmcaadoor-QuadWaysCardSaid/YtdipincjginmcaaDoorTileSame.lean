/- The walks of law04's Back and the document's SameTiles. -/
import Derived.Test.YtdipincjginmcaaDoorTileFour
namespace Go.Proofs.YtdipincjginmcaaDoor
open Go.RowKit

theorem rtile_info : (Tryd.prog.info? 23).map (fun i => (i.zero, i.size, i.bytes)) = some (some (.agg #[.int .i64 0, .int .i64 0, .int .i64 0]), 3, 24) := by kernel_rfl

/-- a slice of tiles, in one of its two forms -/
theorem TilesAt.forms {w : World} {B : Nat} {E : TypeId} {v : Value} {L : List (Int × Int × Int)} (h : TilesAt w B E v L) :
    (v = .slice none 0 0 ∧ L = []) ∨ ∃ g cap, v = .slice (some ⟨g, 0, none⟩) L.length cap ∧ g < w.heap.size ∧ B ≤ g := by
  rcases h.2 with ⟨hv, h0⟩ | ⟨g, cap, cur, hv, hg, hh, _⟩
  · exact Or.inl ⟨hv, List.eq_nil_of_length_eq_zero h0⟩
  · exact Or.inr ⟨g, cap, hv, blk_lt hh, hg⟩
theorem TilesAt.below {w w' : World} {B E : Nat} {v : Value} {L : List (Int × Int × Int)} (h : TilesAt w B E v L) (hb : Below w.heap.size w w') : TilesAt w' B E v L := own_keep2 hb h

def SlicePost (E : TypeId) (L : List (Int × Int × Int)) (w : World) (e : Ending) (w' : World) : Prop :=
  ∃ v, e = .returned v ∧ TilesAt w' w.heap.size E v L ∧ Below w.heap.size w w'

theorem take_snoc_tiles (L : List (Int × Int × Int)) (k : Nat) (h : k < L.length) : tcells (L.take (k + 1)) = tcells (L.take k) ++ [.int .i64 (L[k]'h).1, .int .i64 (L[k]'h).2.1, .int .i64 (L[k]'h).2.2] := by
  rw [List.take_succ_eq_append_getElem h, tcells_snoc]

set_option maxHeartbeats 1000000 in
theorem back_any (v : Value) (L : List (Int × Int × Int)) (B : Nat) (w : World) (hT : TilesAt w B 30 v L) (hn : L.length ≤ 100) :
    Calls Tryd.prog 20 #[v] w fun e w' => SlicePost 23 L w e w' := by
  rcases hT.forms with ⟨rfl, rfl⟩ | ⟨g, cap, rfl, hg, hB⟩
  · go_enter Tryd.func20, Tryd.ntmps20
    go_wp2_with fail
    go_loopw [3, 4] (fun co ci wr => ci = .int .i64 0 ∧ co = .slice none 0 0 ∧ wr = w) (fun _ ci _ => 4 - (intOf ci).toNat)
    case atStart => exact ⟨rfl, rfl, rfl⟩
    case round =>
      obtain ⟨rfl, rfl, rfl⟩ := hrel
      go_wp2_with fail
      go_ret
      exact ⟨_, rfl, World.ownsRow_nil _ _ _ _, Below.refl _ _⟩
  · obtain ⟨i0, hi, iz0, iz1, iz2⟩ := info_parts rtile_info
    obtain ⟨n, hnl⟩ : ∃ n, n = L.length := ⟨_, rfl⟩
    rw [← hnl] at hn ⊢
    have HT := Lib.hid hT
    have HN := Lib.hid hnl
    clear hT hnl
    go_enter Tryd.func20, Tryd.ntmps20
    go_wp2_with fail
    go_loopw [3, 4] (fun co ci wr => ∃ k : Nat, k ≤ n ∧ ci = .int .i64 k ∧ Hid (wr.ownsRow w.heap.size 23 3 co k (tcells (L.take k))) ∧ Below w.heap.size w wr) (fun _ ci _ => n - (intOf ci).toNat)
    case atStart => exact ⟨0, by omega, rfl, World.ownsRow_nil _ _ _ _, Below.refl _ _⟩
    case round =>
      obtain ⟨k, hk, rfl, hO, hbl⟩ := hrel
      by_cases hlt : k < n
      · have hlt' : k < L.length := by rw [← HN.out]; exact hlt
        have hin := TilesAt.cell (HT.out.below hbl) k hlt'
        have hts := take_snoc_tiles L k hlt'
        obtain ⟨t, ht⟩ : ∃ t, t = L[k]'hlt' := ⟨_, rfl⟩
        rw [← ht] at hin hts
        obtain ⟨k0, k1, k2⟩ := hin
        have HS := Lib.hid hts
        have hO2 := hO.out
        have hlt2 := hO2.lt
        clear ht hts
        go_wp2_with (at_builtin; go_must (refine wpList_append_own _ rfl (.tmp 11) (.tmp 16) _ rfl w.heap.size 23 i0 _ 3 24 Tryd.underlying40 hi iz0 iz1 iz2 rfl (by omega) _ k (tcells (L.take k)) rfl (hO2.alloc _) ⟨wr.heap.size, 0, none⟩ 1 1 [.int .i64 t.1, .int .i64 t.2.1, .int .i64 t.2.2] rfl rfl ?c1 ?c2 ?c3 ?c4 ?c5 ?_))
        case c1 => exact blk_news3 (heap_alloc_new wr _)
        case c2 => intro u hu; simp at hu; rcases hu with rfl | rfl | rfl <;> rfl
        case c3 => simp only [maxLen]; omega
        case c4 => omega
        case c5 => have := hbl.size; simp; omega
        intro v' w3 hown3 hgrow3 _
        have hb3 : Below w.heap.size w w3 := (hbl.alloc hbl.size _).grown hgrow3 (by have := hbl.size; simp; omega) (fun g hg => (hlt2 g hg).1)
        rw [← HS.out] at hown3
        have HO3 := Lib.hid hown3
        clear hown3 hgrow3 hlt2 hO2 hO k0 k1 k2
        go_wp2_with fail
        exact ⟨⟨k + 1, by omega, by go_num, HO3, hb3⟩, by simp [intOf]; omega⟩
      · have hkn : k = n := by omega
        subst hkn
        have hfin := hO.out
        rw [HN.out, List.take_length] at hfin
        have HF := Lib.hid hfin
        clear hfin
        go_wp2_with fail
        go_ret
        exact ⟨_, rfl, HF.out, hbl⟩

set_option maxHeartbeats 1000000 in
theorem same_any (va vb : Value) (L : List (Int × Int × Int)) (B B' : Nat) (w : World) (hA : TilesAt w B 23 va L) (hB : TilesAt w B' 23 vb L) (hn : L.length ≤ 100) :
    Calls Tryd.prog 19 #[va, vb] w fun e w' => e = .returned (.bool true) ∧ Below w.heap.size w w' := by
  have hq := neq_rtile
  have ht : ∀ a b c : Int, Cv.teq a b c a b c = true := fun a b c => by unfold Cv.teq; simp
  rcases Nat.eq_zero_or_pos L.length with h0 | h0
  · have hl : ∀ {v : Value} {B : Nat}, TilesAt w B 23 v L → ∃ a c, v = .slice a 0 c := by
      intro v B h
      rcases h.forms with ⟨rfl, _⟩ | ⟨g, cap, rfl, _⟩
      · exact ⟨_, _, rfl⟩
      · rw [h0]; exact ⟨_, _, rfl⟩
    obtain ⟨a1, c1, rfl⟩ := hl hA
    obtain ⟨a2, c2, rfl⟩ := hl hB
    clear hA hB hl
    go_enter Tryd.func19, Tryd.ntmps19
    go_wp2_with fail
    go_loopw [5] (fun ci wr => ci = .int .i64 0 ∧ wr = w) (fun ci _ => 4 - (intOf ci).toNat)
    case atStart => exact ⟨rfl, rfl⟩
    case round =>
      obtain ⟨rfl, rfl⟩ := hrel
      go_wp2_with fail
      go_ret
      exact ⟨rfl, Below.refl _ _⟩
  · obtain ⟨g, cap, rfl, hg, _⟩ := hA.forms.resolve_left (by rintro ⟨_, rfl⟩; simp at h0)
    obtain ⟨g', cap', rfl, hg', _⟩ := hB.forms.resolve_left (by rintro ⟨_, rfl⟩; simp at h0)
    obtain ⟨n, hnl⟩ : ∃ n, n = L.length := ⟨_, rfl⟩
    rw [← hnl] at hn h0 ⊢
    have HA := Lib.hid hA
    have HB := Lib.hid hB
    have HN := Lib.hid hnl
    clear hA hB hnl
    go_enter Tryd.func19, Tryd.ntmps19
    go_wp2_with fail
    go_loopw [5] (fun ci wr => ∃ k : Nat, k ≤ n ∧ ci = .int .i64 k ∧ Below w.heap.size w wr) (fun ci _ => n - (intOf ci).toNat)
    case atStart => exact ⟨0, by omega, rfl, Below.refl _ _⟩
    case round =>
      obtain ⟨k, hk, rfl, hbl⟩ := hrel
      by_cases hlt : k < n
      · have hlt' : k < L.length := by rw [← HN.out]; exact hlt
        have hin := TilesAt.cell (HA.out.below hbl) k hlt'
        have hin' := TilesAt.cell (HB.out.below hbl) k hlt'
        obtain ⟨t, ht'⟩ : ∃ t, t = L[k]'hlt' := ⟨_, rfl⟩
        rw [← ht'] at hin hin'
        obtain ⟨k0, k1, k2⟩ := hin
        obtain ⟨m0, m1, m2⟩ := hin'
        clear ht'
        go_wp2_with fail
        go_quiet (fail)
        go_wp2_with fail
        exact ⟨⟨k + 1, by omega, by go_num, bdraws hbl _⟩, by simp [intOf]; omega⟩
      · have hkn : k = n := by omega
        subst hkn
        go_wp2_with fail
        go_ret
        exact ⟨rfl, hbl⟩

end Go.Proofs.YtdipincjginmcaaDoor
