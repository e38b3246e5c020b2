/- The walks of Leaves, the program's and the document's. -/
import Derived.Test.YtppciejcobmikaaSeekMath
import Derived.Test.YtppciejcobmikaaEntOwn
namespace Go.Proofs.Ytppciejcobmikaa
open Go.RowKit

theorem lv_snoc (L : List Ent) (k : Nat) (h : k < L.length) (e : Ent) (he : e = L[k]'h) (h0 : e.2.2.2 = 0) : ecells (Sk.lv (L.take (k + 1))) = ecells (Sk.lv (L.take k)) ++ En.vals e := by
  subst he
  rw [Sk.lv_step L k h, if_pos h0, ecells_append]; simp [ecells]
theorem lv_same (L : List Ent) (k : Nat) (h : k < L.length) (e : Ent) (he : e = L[k]'h) (h0 : ¬ e.2.2.2 = 0) : Sk.lv (L.take (k + 1)) = Sk.lv (L.take k) := by
  subst he
  rw [Sk.lv_step L k h, if_neg h0]
theorem lv_len1 (L : List Ent) (k : Nat) (h : k < L.length) (e : Ent) (he : e = L[k]'h) (h0 : e.2.2.2 = 0) : (Sk.lv (L.take (k + 1))).length = (Sk.lv (L.take k)).length + 1 := by
  subst he
  rw [Sk.lv_step L k h, if_pos h0, List.length_append]; rfl
theorem lv_lenk (L : List Ent) (k : Nat) : (Sk.lv (L.take k)).length ≤ k := Nat.le_trans (Sk.lv_len _) (by rw [List.length_take]; omega)

set_option maxRecDepth 100000 in
set_option maxHeartbeats 1000000 in
theorem leaves_any (A : Option Addr) (n cap : Nat) (L : List Ent) (B : Nat) (w : World) (hr : Reads w B 4 A n (ecells L)) (hn : n = L.length) (hB : B ≤ w.heap.size) (hm : n * 24 ≤ 140737488355328) :
    Calls Try.prog 40 #[.slice A n cap] w fun e w' => OwnPost 26 (Sk.lv L) w e w' := by
  have HR := Lib.hid hr
  have HN := Lib.hid hn
  clear hr hn
  obtain ⟨i0, hi, iz0, iz1, iz2⟩ := info_parts ent_info
  go_enter Try.func40, Try.ntmps40
  go_wp2_with fail
  go_loopw [3, 8] (fun cv ci wr => ∃ k : Nat, k ≤ n ∧ ci = .int .i64 k ∧ Hid (wr.ownsRow w.heap.size 26 4 cv (Sk.lv (L.take k)).length (ecells (Sk.lv (L.take k)))) ∧ Below w.heap.size w wr) (fun _ ci _ => n - (intOf ci).toNat)
  case atStart => exact ⟨0, by omega, rfl, Lib.hid (World.ownsRow_nil _ _ _ _), Below.refl _ _⟩
  case round =>
    obtain ⟨k, hk, rfl, hT, hbl⟩ := hrel
    have hS : w.heap.size ≤ wr.heap.size := hbl.size
    by_cases hlt : k < n
    · have hlt' : k < L.length := by rw [← HN.out]; exact hlt
      obtain ⟨g, off, hA, hgB⟩ := HR.out.plain (by omega) HN.out
      have HR' := HR.out
      rw [hA] at HR'
      subst hA
      obtain ⟨c0, c1, c2, c3⟩ := ((HR'.more hB).below hbl).ent HN.out k hlt'
      obtain ⟨e, he⟩ : ∃ e, e = L[k]'hlt' := ⟨_, rfl⟩
      have hs1 := fun h0 => lv_snoc L k hlt' e he h0
      have hs2 := fun h0 => lv_same L k hlt' e he h0
      have hs3 := fun h0 => lv_len1 L k hlt' e he h0
      rw [← he] at c0 c1 c2 c3
      obtain ⟨i, o, l, r⟩ := e
      have H1 := Lib.hid hs1
      have H2 := Lib.hid hs2
      have H3 := Lib.hid hs3
      have hlk := lv_lenk L k
      obtain ⟨m, hm0⟩ : ∃ m, m = (Sk.lv (L.take k)).length := ⟨_, rfl⟩
      rw [← hm0] at hT hlk
      have HM := Lib.hid hm0
      have hlt2 := hT.out.lt
      clear he hs1 hs2 hs3 HR' hm0
      by_cases hz : r = 0
      · subst hz
        go_wp2_with (at_builtin; go_must (refine wpList_append_own _ rfl (.tmp 15) (.tmp 17) _ rfl w.heap.size 26 i0 _ 4 24 Try.underlying37 hi iz0 iz1 iz2 rfl (by omega) _ m (ecells (Sk.lv (L.take k))) rfl ((hT.out.alloc _).alloc _) ⟨wr.heap.size + 1, 0, none⟩ 1 1 [.int .u64 i, .int .u64 o, .int .u32 l, .int .u32 0] rfl (by simp; done) ?c1 ?c2 ?c3 ?c4 ?c5 ?_))
        case c2 => exact ⟨rfl, rfl, rfl, rfl⟩
        case c3 => simp only [maxLen]; omega
        case c4 => omega
        case c5 => first | omega | (simp; omega)
        intro v' w3 hown3 hgrow3 _
        have hb3 : Below w.heap.size w w3 := (((hbl.alloc hS _).alloc (by simp; omega) _).grown hgrow3 (by simp; omega) (fun g hg => (hlt2 g hg).1))
        have hT3 : Hid (w3.ownsRow w.heap.size 26 4 v' (Sk.lv (L.take (k + 1))).length (ecells (Sk.lv (L.take (k + 1))))) := Lib.hid (by rw [H1.out (by simp), H3.out (by simp), ← HM.out]; exact hown3)
        clear hown3 hgrow3 hlt2
        go_wp2_with fail
        exact ⟨⟨k + 1, by omega, by go_num, hT3, hb3⟩, by simp [intOf]; omega⟩
      · have hT2 := H2.out hz
        have HT2 : Hid (wr.ownsRow w.heap.size 26 4 u3 (Sk.lv (L.take (k + 1))).length (ecells (Sk.lv (L.take (k + 1))))) := Lib.hid (by rw [hT2, ← HM.out]; exact hT.out)
        clear hT2 hlt2
        go_wp2_with fail
        exact ⟨⟨k + 1, by omega, by go_num, Lib.hid (ownsRow_keep HT2.out (blk_new _ _)), hbl.alloc hS _⟩, by simp [intOf]; omega⟩
    · have hkn : k = n := by omega
      subst hkn
      have hz : L.take k = L := List.take_of_length_le (by rw [← HN.out]; omega)
      have HZ := Lib.hid hz
      clear hz
      go_wp2_with fail
      go_ret
      exact ⟨_, rfl, by have h := hT.out; rw [HZ.out] at h; exact h, hbl⟩

set_option maxRecDepth 100000 in
set_option maxHeartbeats 1000000 in
theorem refleaves_any (A : Option Addr) (n cap : Nat) (L : List Ent) (B : Nat) (w : World) (hr : Reads w B 4 A n (ecells L)) (hn : n = L.length) (hB : B ≤ w.heap.size) (hm : n * 24 ≤ 140737488355328) :
    Calls Try.prog 41 #[.slice A n cap] w fun e w' => OwnPost 25 (Sk.lv L) w e w' := by
  have HR := Lib.hid hr
  have HN := Lib.hid hn
  clear hr hn
  obtain ⟨i0, hi, iz0, iz1, iz2⟩ := info_parts rent_info
  go_enter Try.func41, Try.ntmps41
  go_wp2_with fail
  go_loopw [3, 4] (fun cv ci wr => ∃ k : Nat, k ≤ n ∧ ci = .int .i64 k ∧ Hid (wr.ownsRow w.heap.size 25 4 cv (Sk.lv (L.take k)).length (ecells (Sk.lv (L.take k)))) ∧ Below w.heap.size w wr) (fun _ ci _ => n - (intOf ci).toNat)
  case atStart => exact ⟨0, by omega, rfl, Lib.hid (World.ownsRow_nil _ _ _ _), Below.refl _ _⟩
  case round =>
    obtain ⟨k, hk, rfl, hT, hbl⟩ := hrel
    have hS : w.heap.size ≤ wr.heap.size := hbl.size
    by_cases hlt : k < n
    · have hlt' : k < L.length := by rw [← HN.out]; exact hlt
      obtain ⟨g, off, hA, hgB⟩ := HR.out.plain (by omega) HN.out
      have HR' := HR.out
      rw [hA] at HR'
      subst hA
      obtain ⟨c0, c1, c2, c3⟩ := ((HR'.more hB).below hbl).ent HN.out k hlt'
      obtain ⟨e, he⟩ : ∃ e, e = L[k]'hlt' := ⟨_, rfl⟩
      have hs1 := fun h0 => lv_snoc L k hlt' e he h0
      have hs2 := fun h0 => lv_same L k hlt' e he h0
      have hs3 := fun h0 => lv_len1 L k hlt' e he h0
      rw [← he] at c0 c1 c2 c3
      obtain ⟨i, o, l, r⟩ := e
      have H1 := Lib.hid hs1
      have H2 := Lib.hid hs2
      have H3 := Lib.hid hs3
      have hlk := lv_lenk L k
      obtain ⟨m, hm0⟩ : ∃ m, m = (Sk.lv (L.take k)).length := ⟨_, rfl⟩
      rw [← hm0] at hT hlk
      have HM := Lib.hid hm0
      have hlt2 := hT.out.lt
      clear he hs1 hs2 hs3 HR' hm0
      by_cases hz : r = 0
      · subst hz
        go_wp2_with (at_builtin; go_must (refine wpList_append_own _ rfl (.tmp 17) (.tmp 22) _ rfl w.heap.size 25 i0 _ 4 24 Try.underlying35 hi iz0 iz1 iz2 rfl (by omega) _ m (ecells (Sk.lv (L.take k))) rfl (hT.out.alloc _) ⟨wr.heap.size, 0, none⟩ 1 1 [.int .u64 i, .int .u64 o, .int .u32 l, .int .u32 0] rfl (by simp; done) ?c1 ?c2 ?c3 ?c4 ?c5 ?_))
        case c2 => exact ⟨rfl, rfl, rfl, rfl⟩
        case c3 => simp only [maxLen]; omega
        case c4 => omega
        case c5 => first | omega | (simp; omega)
        intro v' w3 hown3 hgrow3 _
        have hb3 : Below w.heap.size w w3 := ((hbl.alloc hS _).grown hgrow3 (by simp; omega) (fun g hg => (hlt2 g hg).1))
        have hT3 : Hid (w3.ownsRow w.heap.size 25 4 v' (Sk.lv (L.take (k + 1))).length (ecells (Sk.lv (L.take (k + 1))))) := Lib.hid (by rw [H1.out (by simp), H3.out (by simp), ← HM.out]; exact hown3)
        clear hown3 hgrow3 hlt2
        go_wp2_with fail
        exact ⟨⟨k + 1, by omega, by go_num, hT3, hb3⟩, by simp [intOf]; omega⟩
      · have hT2 := H2.out hz
        have HT2 : Hid (wr.ownsRow w.heap.size 25 4 u3 (Sk.lv (L.take (k + 1))).length (ecells (Sk.lv (L.take (k + 1))))) := Lib.hid (by rw [hT2, ← HM.out]; exact hT.out)
        clear hT2 hlt2
        go_wp2_with fail
        exact ⟨⟨k + 1, by omega, by go_num, Lib.hid (HT2.out), hbl⟩, by simp [intOf]; omega⟩
    · have hkn : k = n := by omega
      subst hkn
      have hz : L.take k = L := List.take_of_length_le (by rw [← HN.out]; omega)
      have HZ := Lib.hid hz
      clear hz
      go_wp2_with fail
      go_ret
      exact ⟨_, rfl, by have h := hT.out; rw [HZ.out] at h; exact h, hbl⟩

end Go.Proofs.Ytppciejcobmikaa
