/- The walks of the document's functions on lists of texts. -/
import Derived.Test.YtdipincjginmcaaDoorQuadAwake
namespace Go.Proofs.YtdipincjginmcaaDoor
open Go.RowKit

theorem pre_eq (s p : ByteArray) (h : p.size ≤ s.size) : ((s.extract 0 p.size).toList == p.toList) = Lib.hasPrefix s.data.toList p.data.toList := by
  rw [← Lib.hasPrefix_of_take, ← Lib.size_eq, ← Lib.size_eq, Lib.extract_toList, Lib.toList_data]
  simp [h]
theorem pre_no (s p : ByteArray) (h : ¬ p.size ≤ s.size) : Lib.hasPrefix s.data.toList p.data.toList = false := by
  rw [← Lib.hasPrefix_of_take, ← Lib.size_eq, ← Lib.size_eq]
  simp [h]

set_option maxHeartbeats 4000000 in
theorem over35_any (A : Option Addr) (n cap : Nat) (L : List ByteArray) (B : Nat) (w : World) (hr : Reads w B 1 A n (Qu.row L)) (hn : n = L.length) (hm : n ≤ 140737488355328) :
    Calls Tryd.prog 7 #[.slice A n cap, .int .i64 40] w fun e w' => (∃ b, e = .returned (.bool b) ∧ (b = true ∨ n ≤ 40)) ∧ w' = w := by
  have HR := Lib.hid hr
  have HN := Lib.hid hn
  clear hr hn
  go_enter Tryd.func7, Tryd.ntmps7
  go_wp2_with fail
  go_loopw [5] (fun ci wr => ∃ k : Nat, k ≤ n ∧ ci = .int .i64 k ∧ wr = w) (fun ci _ => n - (intOf ci).toNat)
  case atStart => exact ⟨0, by omega, rfl, rfl⟩
  case round =>
    obtain ⟨k, hk, rfl, rfl⟩ := hrel
    by_cases hlt : k < n
    · have hlt' : k < L.length := by rw [← HN.out]; exact hlt
      obtain ⟨g, off, hA, hgB, hc⟩ := HR.out.text HN.out k hlt'
      subst hA
      obtain ⟨t, ht⟩ : ∃ t, t = L[k]'hlt' := ⟨_, rfl⟩
      rw [← ht] at hc
      clear ht
      by_cases hbig : (t.size : Int) > 300
      · go_wp2_with fail
        go_ret
        exact ⟨⟨_, rfl, Or.inl rfl⟩, rfl⟩
      · go_wp2_with fail
        exact ⟨⟨k + 1, by omega, by go_num, by first | trivial | rfl⟩, by simp [intOf]; omega⟩
    · obtain rfl : k = n := by omega
      go_wp2_with fail
      go_ret
      refine ⟨⟨_, rfl, ?_⟩, rfl⟩
      by_cases h : k ≤ 40
      · exact Or.inr h
      · left; simp; omega

set_option maxHeartbeats 4000000 in
theorem refunder_any (A : Option Addr) (n cap : Nat) (L : List ByteArray) (s : ByteArray) (B : Nat) (w : World) (hr : Reads w B 1 A n (Qu.row L)) (hn : n = L.length) (hB : B ≤ w.heap.size) (hm : n ≤ 1000) :
    Calls Tryd.prog 15 #[.slice A n cap, .string s] w fun e w' => StrsPost (Qu.und L s) w e w' := by
  have HR := Lib.hid hr
  have HN := Lib.hid hn
  clear hr hn
  obtain ⟨i0, hi, iz0, iz1, iz2⟩ := info_parts str_info
  go_enter Tryd.func15, Tryd.ntmps15
  go_wp2_with fail
  go_loopw [5, 6] (fun cv ci wr => ∃ (k m : Nat), k ≤ n ∧ ci = .int .i64 k ∧ m ≤ k ∧ Hid (m = (Qu.und (L.take k) s).length) ∧ Hid (wr.ownsRow w.heap.size 9 1 cv m (Qu.row (Qu.und (L.take k) s))) ∧ Below w.heap.size w wr) (fun _ ci _ => n - (intOf ci).toNat)
  case atStart => exact ⟨0, 0, by omega, rfl, by omega, Lib.hid rfl, Lib.hid (World.ownsRow_nil _ _ _ _), Below.refl _ _⟩
  case round =>
    obtain ⟨k, m, hk, rfl, hmk, HM, hT, hw⟩ := hrel
    by_cases hlt : k < n
    · have hlt' : k < L.length := by rw [← HN.out]; exact hlt
      obtain ⟨g, off, hA, hgB, hc⟩ := ((HR.out.more hB).below hw).text HN.out k hlt'
      subst hA
      obtain ⟨t, ht⟩ : ∃ t, t = L[k]'hlt' := ⟨_, rfl⟩
      rw [← ht] at hc
      have HT := Lib.hid ht
      clear ht
      by_cases hsz : s.size ≤ t.size
      · have hge : (t.size : Int) ≥ (s.size : Int) := by omega
        have hpe := pre_eq t s hsz
        obtain ⟨b, hbv⟩ : ∃ b, b = Lib.hasPrefix t.data.toList s.data.toList := ⟨_, rfl⟩
        rw [← hbv] at hpe
        have HBV := Lib.hid hbv
        clear hbv
        cases b with
        | false =>
          have hun := Qu.und_no (s := s) hlt' (by rw [← HT.out]; exact HBV.out.symm)
          have HUN := Lib.hid hun
          clear hun
          go_wp2_with fail
          exact ⟨⟨k + 1, m, by omega, by go_num, by omega, Lib.hid (by rw [HUN.out]; exact HM.out), Lib.hid (by rw [HUN.out]; exact hT.out), hw⟩, by simp [intOf]; omega⟩
        | true =>
          have hun := Qu.und_yes (s := s) hlt' (by rw [← HT.out]; exact HBV.out.symm)
          rw [← HT.out] at hun
          have HUN := Lib.hid hun
          clear hun
          have hlt2 := hT.out.lt
          have hS : w.heap.size ≤ wr.heap.size := hw.size
          go_wp2_with (at_builtin; go_must (refine wpList_append_own _ rfl (.tmp 32) (.tmp 37) _ rfl w.heap.size 9 i0 _ 1 16 Tryd.underlying24 hi iz0 iz1 iz2 rfl (by omega) _ m (Qu.row (Qu.und (L.take k) s)) rfl (hT.out.alloc _) ⟨wr.heap.size, 0, none⟩ 1 1 [.string t] rfl (by simp; done) ?c1 ?c2 ?c3 ?c4 ?c5 ?_))
          case c1 =>
            intro j u hu
            rcases j with _ | j
            · simp at hu; subst hu; exact cell_of_row _ _ 0 _ _ _ (heap_alloc_new wr _)
            · simp at hu
          case c2 => intro u hu; simp at hu; subst hu; rfl
          case c3 => simp only [maxLen]; omega
          case c4 => omega
          case c5 => first | omega | (simp; omega)
          intro v' w3 hown3 hgrow3 _
          have hb3 : Below w.heap.size w w3 := (hw.alloc hS _).grown hgrow3 (by simp; omega) (fun g hg => (hlt2 g hg).1)
          have hT3 : Hid (w3.ownsRow w.heap.size 9 1 v' (m + 1) (Qu.row (Qu.und (L.take (k + 1)) s))) := Lib.hid (by rw [HUN.out, Qu.row_snoc]; exact hown3)
          clear hown3 hgrow3 hlt2
          go_wp2_with fail
          exact ⟨⟨k + 1, m + 1, by omega, by go_num, by omega, Lib.hid (by rw [HUN.out, List.length_append]; simp [← HM.out]), hT3, hb3⟩, by simp [intOf]; omega⟩
      · have hge : ¬ (t.size : Int) ≥ (s.size : Int) := by omega
        have hun := Qu.und_no (s := s) hlt' (by rw [← HT.out]; exact pre_no t s hsz)
        have HUN := Lib.hid hun
        clear hun
        go_wp2_with fail
        exact ⟨⟨k + 1, m, by omega, by go_num, by omega, Lib.hid (by rw [HUN.out]; exact HM.out), Lib.hid (by rw [HUN.out]; exact hT.out), hw⟩, by simp [intOf]; omega⟩
    · obtain rfl : k = n := by omega
      have hall : L.take k = L := by rw [HN.out]; exact List.take_length
      go_wp2_with fail
      go_ret
      exact ⟨_, rfl, by have h := hT.out; rw [hall] at h; unfold StrsAt; have h2 := HM.out; rw [hall] at h2; rw [← h2]; exact h, hw⟩

theorem StrsAt.below {w w' : World} {B : Nat} {v : Value} {L : List ByteArray} (h : StrsAt w B v L) (hb : Below w.heap.size w w') : StrsAt w' B v L := ownsRow_keep h hb
theorem StrsAt.none_len {w : World} {B : Nat} {v : Value} {L : List ByteArray} (h : StrsAt w B v L) (h0 : L.length = 0) : ∃ a c, v = .slice a 0 c := by
  rcases h.2 with ⟨hv, _⟩ | ⟨g, cap, cur, hv, _⟩
  · exact ⟨_, _, hv⟩
  · rw [h0] at hv; exact ⟨_, _, hv⟩

set_option maxHeartbeats 4000000 in
theorem same21_any (va vb : Value) (L : List ByteArray) (B B' : Nat) (w : World) (hA : StrsAt w B va L) (hB : StrsAt w B' vb L) (hn : L.length ≤ 1000) :
    Calls Tryd.prog 13 #[va, vb] w fun e w' => e = .returned (.bool true) ∧ Below w.heap.size w w' := by
  rcases Nat.eq_zero_or_pos L.length with h0 | h0
  · obtain ⟨a1, c1, rfl⟩ := hA.none_len h0
    obtain ⟨a2, c2, rfl⟩ := hB.none_len h0
    clear hA hB
    go_enter Tryd.func13, Tryd.ntmps13
    go_wp2_with fail
    go_loopw [5] (fun ci wr => ci = .int .i64 0 ∧ wr = w) (fun ci _ => 4 - (intOf ci).toNat)
    case atStart => exact ⟨rfl, rfl⟩
    case round =>
      obtain ⟨rfl, rfl⟩ := hrel
      go_wp2_with fail
      go_ret
      exact ⟨rfl, Below.refl _ _⟩
  · obtain ⟨g, cap, rfl, hg, hga⟩ := hA.formed h0
    obtain ⟨g', cap', rfl, hg', hgb⟩ := hB.formed h0
    obtain ⟨n, hnl⟩ : ∃ n, n = L.length := ⟨_, rfl⟩
    rw [← hnl] at hn h0 hga hgb ⊢
    have HA := Lib.hid hga
    have HB := Lib.hid hgb
    have HN := Lib.hid hnl
    clear hA hB hnl hga hgb
    go_enter Tryd.func13, Tryd.ntmps13
    go_wp2_with fail
    go_loopw [5] (fun ci wr => ∃ k : Nat, k ≤ n ∧ ci = .int .i64 k ∧ Below w.heap.size w wr) (fun ci _ => n - (intOf ci).toNat)
    case atStart => exact ⟨0, by omega, rfl, Below.refl _ _⟩
    case round =>
      obtain ⟨k, hk, rfl, hbl⟩ := hrel
      by_cases hlt : k < n
      · have hlt' : k < L.length := by rw [← HN.out]; exact hlt
        have k0 := (hbl.cell (show (⟨g, k, none⟩ : Addr).block < w.heap.size from hg)).trans (HA.out k (by omega))
        have m0 := (hbl.cell (show (⟨g', k, none⟩ : Addr).block < w.heap.size from hg')).trans (HB.out k (by omega))
        have hrow : (Qu.row L)[k]? = some (.string (L[k]'hlt')) := by unfold Qu.row; rw [List.getElem?_map, List.getElem?_eq_getElem hlt']; rfl
        rw [hrow] at k0 m0
        obtain ⟨t, ht'⟩ : ∃ t, t = L[k]'hlt' := ⟨_, rfl⟩
        rw [← ht'] at k0 m0
        clear ht' hrow
        go_wp2_with fail
        go_quiet (fail)
        go_wp2_with fail
        exact ⟨⟨k + 1, by omega, by go_num, bdraws hbl _⟩, by simp [intOf]; omega⟩
      · have hkn : k = n := by omega
        subst hkn
        go_wp2_with fail
        go_ret
        exact ⟨rfl, hbl⟩
end Go.Proofs.YtdipincjginmcaaDoor
