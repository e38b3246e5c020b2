/- The walk of the program's Under. -/
import Derived.Test.YtdipincjginmcaaDoorQuadCom
namespace Go.Proofs.YtdipincjginmcaaDoor
open Go.RowKit

def Qu.row (L : List ByteArray) : List Value := L.map .string
def Qu.und (L : List ByteArray) (s : ByteArray) : List ByteArray := L.filter fun t => Lib.hasPrefix t.data.toList s.data.toList
theorem Qu.row_len (L : List ByteArray) : (Qu.row L).length = L.length := by simp [Qu.row]
theorem Qu.row_snoc (L : List ByteArray) (t : ByteArray) : Qu.row (L ++ [t]) = Qu.row L ++ [.string t] := by simp [Qu.row]
theorem Qu.und_yes {L : List ByteArray} {s : ByteArray} {k : Nat} (hk : k < L.length) (h : Lib.hasPrefix (L[k]'hk).data.toList s.data.toList = true) : Qu.und (L.take (k + 1)) s = Qu.und (L.take k) s ++ [L[k]'hk] := by
  unfold Qu.und; rw [List.take_succ_eq_append_getElem hk, List.filter_append]; simp [h]
theorem Qu.und_no {L : List ByteArray} {s : ByteArray} {k : Nat} (hk : k < L.length) (h : Lib.hasPrefix (L[k]'hk).data.toList s.data.toList = false) : Qu.und (L.take (k + 1)) s = Qu.und (L.take k) s := by
  unfold Qu.und; rw [List.take_succ_eq_append_getElem hk, List.filter_append]; simp [h]
theorem Qu.und_len (L : List ByteArray) (s : ByteArray) (k : Nat) : (Qu.und (L.take k) s).length ≤ k := by
  unfold Qu.und; have := List.length_filter_le (fun t : ByteArray => Lib.hasPrefix t.data.toList s.data.toList) (L.take k); rw [List.length_take] at this; omega
theorem Reads.text {w : World} {B n : Nat} {A : Option Addr} {L : List ByteArray} (h : Reads w B 1 A n (Qu.row L)) (hn : n = L.length) (k : Nat) (hk : k < L.length) :
    ∃ g off, A = some ⟨g, off, none⟩ ∧ g < B ∧ w.cell? ⟨g, off + k, none⟩ = some (.string (L[k]'hk)) := by
  obtain ⟨ad, u, rfl, hb, hu, hc⟩ := h.at_ (k := k) (by omega)
  have hu2 : u = .string (L[k]'hk) := by
    unfold Qu.row at hu; rw [List.getElem?_map, List.getElem?_eq_getElem hk] at hu
    exact (Option.some.inj hu).symm
  subst hu2
  obtain ⟨ad0, u0, e0, _, _, hc0⟩ := h.at_ (k := 0) (by omega)
  injection e0 with e0
  subst e0
  have hs := World.cell?_spot hc0
  obtain ⟨g, off, s⟩ := ad
  have hs' : s = none := by simpa [Addr.add] using hs
  subst hs'
  refine ⟨g, off, rfl, hb, ?_⟩
  have : (⟨g, off, none⟩ : Addr).add k = ⟨g, off + k, none⟩ := by
    unfold Addr.add; by_cases hm : k = 0
    · subst hm; rfl
    · rw [if_neg hm]
  rw [this] at hc
  exact hc
theorem str_info : (Tryd.prog.info? 9).map (fun i => (i.zero, i.size, i.bytes)) = some (some (.string ⟨#[]⟩), 1, 16) := by kernel_rfl
def StrsAt (w : World) (B : Nat) (v : Value) (L : List ByteArray) : Prop := w.ownsRow B 9 1 v L.length (Qu.row L)
def StrsPost (L : List ByteArray) (w : World) (e : Ending) (w' : World) : Prop := ∃ v, e = .returned v ∧ StrsAt w' w.heap.size v L ∧ Below w.heap.size w w'

set_option maxHeartbeats 4000000 in
theorem under_any (A : Option Addr) (n cap : Nat) (L : List ByteArray) (s : ByteArray) (B : Nat) (w : World) (hr : Reads w B 1 A n (Qu.row L)) (hn : n = L.length) (hB : B ≤ w.heap.size) (hm : n ≤ 1000) :
    Calls Tryd.prog 14 #[.slice A n cap, .string s] w fun e w' => StrsPost (Qu.und L s) w e w' := by
  have HR := Lib.hid hr
  have HN := Lib.hid hn
  clear hr hn
  obtain ⟨i0, hi, iz0, iz1, iz2⟩ := info_parts str_info
  go_enter Tryd.func14, Tryd.ntmps14
  go_wp2_with fail
  go_loopw [5, 10] (fun cv ci wr => ∃ (k m : Nat), k ≤ n ∧ ci = .int .i64 k ∧ m ≤ k ∧ Hid (m = (Qu.und (L.take k) s).length) ∧ Hid (wr.ownsRow w.heap.size 9 1 cv m (Qu.row (Qu.und (L.take k) s))) ∧ Below w.heap.size w wr) (fun _ ci _ => n - (intOf ci).toNat)
  case atStart => exact ⟨0, 0, by omega, rfl, by omega, Lib.hid rfl, Lib.hid (World.ownsRow_nil _ _ _ _), Below.refl _ _⟩
  case round =>
    obtain ⟨k, m, hk, rfl, hmk, HM, hT, hw⟩ := hrel
    by_cases hlt : k < n
    · have hlt' : k < L.length := by rw [← HN.out]; exact hlt
      obtain ⟨g, off, hA, hgB, hc⟩ := ((HR.out.more hB).below hw).text HN.out k hlt'
      subst hA
      obtain ⟨t, ht⟩ : ∃ t, t = L[k]'hlt' := ⟨_, rfl⟩
      rw [← ht] at hc
      obtain ⟨b, hbv⟩ : ∃ b, b = Lib.hasPrefix t.data.toList s.data.toList := ⟨_, rfl⟩
      have HT := Lib.hid ht
      have HBV := Lib.hid hbv
      have HP : Hid (∀ w, Calls Tryd.prog 23 #[.string t, .string s] w fun e w' => e = .returned (.bool b) ∧ w' = w) := Lib.hid (fun w => by rw [hbv]; exact Tryd.has_prefix t s w)
      clear ht hbv
      go_wp2_with fail
      refine (HP.out _).mono ?_; rintro e w1 ⟨rfl, rfl⟩
      clear hc
      cases b with
      | false =>
        have hun := Qu.und_no (s := s) hlt' (by rw [← HT.out]; exact HBV.out.symm)
        have HUN := Lib.hid hun
        clear hun
        go_wp2_with fail
        exact ⟨⟨k + 1, m, by omega, by go_num, by omega, Lib.hid (by rw [HUN.out]; exact HM.out), Lib.hid (by rw [HUN.out]; exact hT.out), hw⟩, by simp [intOf]; omega⟩
      | true =>
        have hun := Qu.und_yes (s := s) hlt' (by rw [← HT.out]; exact HBV.out.symm)
        rw [← HT.out] at hun
        have HUN := Lib.hid hun
        clear hun
        have hlt2 := hT.out.lt
        have hS : w.heap.size ≤ w1.heap.size := hw.size
        go_wp2_with (at_builtin; go_must (refine wpList_append_own _ rfl (.tmp 17) (.tmp 19) _ rfl w.heap.size 9 i0 _ 1 16 Tryd.underlying24 hi iz0 iz1 iz2 rfl (by omega) _ m (Qu.row (Qu.und (L.take k) s)) rfl (hT.out.alloc _) ⟨w1.heap.size, 0, none⟩ 1 1 [.string t] rfl (by simp; done) ?c1 ?c2 ?c3 ?c4 ?c5 ?_))
        case c1 =>
          intro j u hu
          rcases j with _ | j
          · simp at hu; subst hu; exact cell_of_row _ _ 0 _ _ _ (heap_alloc_new w1 _)
          · simp at hu
        case c2 => intro u hu; simp at hu; subst hu; rfl
        case c3 => simp only [maxLen]; omega
        case c4 => omega
        case c5 => first | omega | (simp; omega)
        intro v' w3 hown3 hgrow3 _
        have hb3 : Below w.heap.size w w3 := (hw.alloc hS _).grown hgrow3 (by simp; omega) (fun g hg => (hlt2 g hg).1)
        have hT3 : Hid (w3.ownsRow w.heap.size 9 1 v' (m + 1) (Qu.row (Qu.und (L.take (k + 1)) s))) := Lib.hid (by rw [HUN.out, Qu.row_snoc]; exact hown3)
        clear hown3 hgrow3 hlt2
        go_wp2_with fail
        exact ⟨⟨k + 1, m + 1, by omega, by go_num, by omega, Lib.hid (by rw [HUN.out, List.length_append]; simp [← HM.out]), hT3, hb3⟩, by simp [intOf]; omega⟩
    · obtain rfl : k = n := by omega
      have hall : L.take k = L := by rw [HN.out]; exact List.take_length
      go_wp2_with fail
      go_ret
      exact ⟨_, rfl, by have h := hT.out; rw [hall] at h; unfold StrsAt; have h2 := HM.out; rw [hall] at h2; rw [← h2]; exact h, hw⟩
end Go.Proofs.YtdipincjginmcaaDoor
