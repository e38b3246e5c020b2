/- The walks of Own and Back: a copy of entries in the call's own row. -/
import Derived.Test.YtppciejcobmikaaEntSpec
import Derived.Deep.AppendLies
import Derived.Deep.DeepMust
namespace Go.Proofs.Ytppciejcobmikaa
open Go.RowKit

theorem ent_info : (Try.prog.info? 26).map (fun i => (i.zero, i.size, i.bytes)) = some (some (.agg #[.int .u64 0, .int .u64 0, .int .u32 0, .int .u32 0]), 4, 24) := by kernel_rfl
theorem rent_info : (Try.prog.info? 25).map (fun i => (i.zero, i.size, i.bytes)) = some (some (.agg #[.int .u64 0, .int .u64 0, .int .u32 0, .int .u32 0]), 4, 24) := by kernel_rfl
/-- a fresh row that holds entries -/
def OwnPost (E : TypeId) (L : List Ent) (w : World) (e : Ending) (w' : World) : Prop :=
  ∃ v, e = .returned v ∧ w'.ownsRow w.heap.size E 4 v L.length (ecells L) ∧ Below w.heap.size w w'
theorem blk_news4 {w : World} {g : Nat} {a b c d : Value} {t : TypeId} (h : w.heap[g]? = some (.cells #[a, b, c, d] t (0, 0))) : ∀ j u, [a, b, c, d][j]? = some u → w.cell? ((⟨g, 0, none⟩ : Addr).add j) = some u := by
  intro j u hu
  obtain ⟨h0, h1, h2, h3⟩ := blk_cells4 h
  match j, hu with
  | 0, hu => simp at hu; subst hu; exact h0
  | 1, hu => simp at hu; subst hu; exact h1
  | 2, hu => simp at hu; subst hu; exact h2
  | 3, hu => simp at hu; subst hu; exact h3
  | j + 4, hu => simp at hu
theorem ownsRow_keep {w w' : World} {base size n : Nat} {e : TypeId} {v : Value} {xs : List Value} (h : w.ownsRow base e size v n xs) (hb : Below w.heap.size w w') : w'.ownsRow base e size v n xs := by
  obtain ⟨h1, h2⟩ := h
  refine ⟨h1, ?_⟩
  rcases h2 with h2 | ⟨g, cap, cur, hv, hg, hh, r⟩
  · exact Or.inl h2
  · exact Or.inr ⟨g, cap, cur, hv, hg, blk_keep hh hb, r⟩
/-- an own row's value is a slice of so many -/
theorem own_slice {w : World} {base size n : Nat} {e : TypeId} {v : Value} {xs : List Value} (h : w.ownsRow base e size v n xs) : ∃ A c, v = .slice A n c ∧ n ≤ c := by
  rcases h.2 with ⟨rfl, rfl⟩ | ⟨g, cap, cur, rfl, _, _, hc, _⟩
  · exact ⟨none, 0, rfl, Nat.le_refl _⟩
  · exact ⟨_, _, rfl, hc⟩
theorem ecells_snoc (L : List Ent) (k : Nat) (h : k < L.length) : ecells (L.take (k + 1)) = ecells (L.take k) ++ En.vals (L[k]'h) := by
  rw [take_snoc L k h, ecells_append]; simp [ecells]
set_option maxHeartbeats 1000000 in
theorem own_any (A : Option Addr) (n cap : Nat) (L : List Ent) (B : Nat) (w : World) (hr : Reads w B 4 A n (ecells L)) (hn : n = L.length) (hB : B ≤ w.heap.size) (hm : n * 24 ≤ 140737488355328) :
    Calls Try.prog 23 #[.slice A n cap] w fun e w' => OwnPost 26 L w e w' := by
  rcases Nat.eq_zero_or_pos n with h0 | h0
  · have hL : L = [] := List.eq_nil_of_length_eq_zero (by omega)
    subst hL
    subst h0
    clear hr hn
    go_enter Try.func23, Try.ntmps23
    go_wp2_with fail
    go_loopw [3, 4] (fun cv ci wr => cv = .slice none 0 0 ∧ ci = .int .i64 0 ∧ wr = w) (fun _ ci _ => 4 - (intOf ci).toNat)
    case atStart => exact ⟨rfl, rfl, rfl⟩
    case round =>
      obtain ⟨rfl, rfl, rfl⟩ := hrel
      go_wp2_with fail
      go_ret
      exact ⟨_, rfl, World.ownsRow_nil _ _ _ _, Below.refl _ _⟩
  · obtain ⟨g, off, rfl, hgB⟩ := hr.plain h0 hn
    have HR := Lib.hid hr
    have HN := Lib.hid hn
    clear hr hn
    obtain ⟨i0, hi, iz0, iz1, iz2⟩ := info_parts ent_info
    go_enter Try.func23, Try.ntmps23
    go_wp2_with fail
    go_loopw [3, 4] (fun cv ci wr => ∃ k : Nat, k ≤ n ∧ ci = .int .i64 k ∧ Hid (wr.ownsRow w.heap.size 26 4 cv k (ecells (L.take k))) ∧ Below w.heap.size w wr) (fun _ ci _ => n - (intOf ci).toNat)
    case atStart => exact ⟨0, by omega, rfl, Lib.hid (World.ownsRow_nil _ _ _ _), Below.refl _ _⟩
    case round =>
      obtain ⟨k, hk, rfl, hT, hbl⟩ := hrel
      by_cases hlt : k < n
      · have hlt' : k < L.length := by rw [← HN.out]; exact hlt
        obtain ⟨c0, c1, c2, c3⟩ := ((HR.out.more hB).below hbl).ent HN.out k hlt'
        have hsn := ecells_snoc L k hlt'
        obtain ⟨⟨i, o, l, r⟩, he⟩ : ∃ e, e = L[k]'hlt' := ⟨_, rfl⟩
        rw [← he] at c0 c1 c2 c3 hsn
        have HS := Lib.hid hsn
        have hlt2 := hT.out.lt
        clear he hsn
        go_wp2_with (at_builtin; go_must (refine wpList_append_own _ rfl (.tmp 11) (.tmp 16) _ rfl w.heap.size 26 i0 _ 4 24 Try.underlying37 hi iz0 iz1 iz2 rfl (by omega) _ k (ecells (L.take k)) rfl (hT.out.alloc _) ⟨wr.heap.size, 0, none⟩ 1 1 [.int .u64 i, .int .u64 o, .int .u32 l, .int .u32 r] rfl rfl ?c1 ?c2 ?c3 ?c4 ?c5 ?_))
        case c2 => exact ⟨rfl, rfl, rfl, rfl⟩
        case c3 => simp only [maxLen]; omega
        case c4 => omega
        case c5 => have := hbl.size; simp; omega
        intro v' w3 hown3 hgrow3 _
        have hS : w.heap.size ≤ wr.heap.size := hbl.size
        have hb3 : Below w.heap.size w w3 := (hbl.alloc hS _).grown hgrow3 (by simp; omega) (fun g hg => (hlt2 g hg).1)
        have hT3 : Hid (w3.ownsRow w.heap.size 26 4 v' (k + 1) (ecells (L.take (k + 1)))) := Lib.hid (by rw [HS.out]; exact hown3)
        clear hown3 hgrow3 hlt2
        go_wp2_with fail
        exact ⟨⟨k + 1, by omega, by go_num, hT3, hb3⟩, by simp [intOf]; omega⟩
      · have hkn : k = n := by omega
        subst hkn
        have hz : L.take k = L := List.take_of_length_le (by rw [← HN.out]; omega)
        have HZ := Lib.hid hz
        clear hz
        go_wp2_with fail
        go_ret
        exact ⟨_, rfl, by have h := hT.out; rw [HZ.out] at h; rw [← HN.out]; exact h, hbl⟩
set_option maxHeartbeats 1000000 in
theorem back_any (A : Option Addr) (n cap : Nat) (L : List Ent) (B : Nat) (w : World) (hr : Reads w B 4 A n (ecells L)) (hn : n = L.length) (hB : B ≤ w.heap.size) (hm : n * 24 ≤ 140737488355328) :
    Calls Try.prog 39 #[.slice A n cap] w fun e w' => OwnPost 25 L w e w' := by
  rcases Nat.eq_zero_or_pos n with h0 | h0
  · have hL : L = [] := List.eq_nil_of_length_eq_zero (by omega)
    subst hL
    subst h0
    clear hr hn
    go_enter Try.func39, Try.ntmps39
    go_wp2_with fail
    go_loopw [3, 4] (fun cv ci wr => cv = .slice none 0 0 ∧ ci = .int .i64 0 ∧ wr = w) (fun _ ci _ => 4 - (intOf ci).toNat)
    case atStart => exact ⟨rfl, rfl, rfl⟩
    case round =>
      obtain ⟨rfl, rfl, rfl⟩ := hrel
      go_wp2_with fail
      go_ret
      exact ⟨_, rfl, World.ownsRow_nil _ _ _ _, Below.refl _ _⟩
  · obtain ⟨g, off, rfl, hgB⟩ := hr.plain h0 hn
    have HR := Lib.hid hr
    have HN := Lib.hid hn
    clear hr hn
    obtain ⟨i0, hi, iz0, iz1, iz2⟩ := info_parts rent_info
    go_enter Try.func39, Try.ntmps39
    go_wp2_with fail
    go_loopw [3, 4] (fun cv ci wr => ∃ k : Nat, k ≤ n ∧ ci = .int .i64 k ∧ Hid (wr.ownsRow w.heap.size 25 4 cv k (ecells (L.take k))) ∧ Below w.heap.size w wr) (fun _ ci _ => n - (intOf ci).toNat)
    case atStart => exact ⟨0, by omega, rfl, Lib.hid (World.ownsRow_nil _ _ _ _), Below.refl _ _⟩
    case round =>
      obtain ⟨k, hk, rfl, hT, hbl⟩ := hrel
      by_cases hlt : k < n
      · have hlt' : k < L.length := by rw [← HN.out]; exact hlt
        obtain ⟨c0, c1, c2, c3⟩ := ((HR.out.more hB).below hbl).ent HN.out k hlt'
        have hsn := ecells_snoc L k hlt'
        obtain ⟨⟨i, o, l, r⟩, he⟩ : ∃ e, e = L[k]'hlt' := ⟨_, rfl⟩
        rw [← he] at c0 c1 c2 c3 hsn
        have HS := Lib.hid hsn
        have hlt2 := hT.out.lt
        clear he hsn
        go_wp2_with (at_builtin; go_must (refine wpList_append_own _ rfl (.tmp 11) (.tmp 16) _ rfl w.heap.size 25 i0 _ 4 24 Try.underlying35 hi iz0 iz1 iz2 rfl (by omega) _ k (ecells (L.take k)) rfl (hT.out.alloc _) ⟨wr.heap.size, 0, none⟩ 1 1 [.int .u64 i, .int .u64 o, .int .u32 l, .int .u32 r] rfl rfl ?c1 ?c2 ?c3 ?c4 ?c5 ?_))
        case c2 => exact ⟨rfl, rfl, rfl, rfl⟩
        case c3 => simp only [maxLen]; omega
        case c4 => omega
        case c5 => have := hbl.size; simp; omega
        intro v' w3 hown3 hgrow3 _
        have hS : w.heap.size ≤ wr.heap.size := hbl.size
        have hb3 : Below w.heap.size w w3 := (hbl.alloc hS _).grown hgrow3 (by simp; omega) (fun g hg => (hlt2 g hg).1)
        have hT3 : Hid (w3.ownsRow w.heap.size 25 4 v' (k + 1) (ecells (L.take (k + 1)))) := Lib.hid (by rw [HS.out]; exact hown3)
        clear hown3 hgrow3 hlt2
        go_wp2_with fail
        exact ⟨⟨k + 1, by omega, by go_num, hT3, hb3⟩, by simp [intOf]; omega⟩
      · have hkn : k = n := by omega
        subst hkn
        have hz : L.take k = L := List.take_of_length_le (by rw [← HN.out]; omega)
        have HZ := Lib.hid hz
        clear hz
        go_wp2_with fail
        go_ret
        exact ⟨_, rfl, by have h := hT.out; rw [HZ.out] at h; rw [← HN.out]; exact h, hbl⟩

end Go.Proofs.Ytppciejcobmikaa
