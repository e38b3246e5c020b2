/- The walk of the chart's Put. The walks of the law's Over and Own. -/
import Derived.Test.YtlfahmdndlmhpaaGreatDoorM26
import Derived.Test.YtlfahmdndlmhpaaGreatDoorM10
import Derived.Test.YtlfahmdndlmhpaaGreatDoorM18
import Derived.Deep.RegionLawGrows
import Derived.Deep.Onto
import Derived.Test.YtlfahmdndlmhpaaGreatDoorM11
import Derived.Deep.CutRange
namespace Go.Proofs.YtlfahmdndlmhpaaGreatDoor
open Go.RowKit

def PutR (A : Option Addr) (n cap : Nat) (L : List Itm) (id : Int) (s : ByteArray) (w : World) (e : Ending) (w' : World) : Prop :=
  ∃ p is, Ch.At L id p is ∧ Below w.heap.size w w' ∧ ((Ch.wr id s false ≠ 0 ∧ e = .returned (.tuple #[.agg #[.slice A n cap], .int .i64 (Ch.wr id s false)])) ∨
    (Ch.wr id s false = 0 ∧ ∃ A' c', e = .returned (.tuple #[.agg #[.slice A' (Ch.put L id s p is).length c'], .int .i64 0]) ∧ (Ch.put L id s p is).length ≤ c' ∧ Reads w' w'.heap.size 2 A' (Ch.put L id s p is).length (icells (Ch.put L id s p is))))
theorem news2 (w : World) (id : Int) (s : ByteArray) : ∀ j u, [Value.int .u64 id, .string s][j]? = some u → (w.alloc (.cells #[.int .u64 id, .string s] 45)).cell? ((⟨w.heap.size, 0, none⟩ : Addr).add j) = some u := by
  intro j u hu
  rw [add_plain, Nat.zero_add]
  rcases j with _ | _ | j
  · simp at hu; subst hu; exact cell_of_row _ _ 0 _ _ _ (heap_alloc_new w _)
  · simp at hu; subst hu; exact cell_of_row _ _ 1 _ _ _ (heap_alloc_new w _)
  · simp at hu
theorem put_end {A : Option Addr} {cap : Nat} {L : List Itm} {id : Int} {s : ByteArray} {p n k m : Nat} {is : Bool} {w w1 w3 : World} {g3 c3 : Nat} (hp : Ch.At L id p is) (hwz : Ch.wr id s false = 0) (hn : n = L.length) (hw3 : Below w.heap.size w w3)
    (ho : w3.ownsRow w1.heap.size 45 2 (.slice (some ⟨g3, 0, none⟩) m c3) m ((icells (L.take p) ++ [.int .u64 id, .string s]) ++ (icells L).drop (k * 2))) (hlt : w.heap.size + 1 < w1.heap.size) (hc : m ≤ c3) (hk : k = if is then p + 1 else p) (hm : m = p + 1 + (n - k)) :
    PutR A n cap L id s w (.returned (.tuple #[.agg #[.slice (some ⟨g3, 0, none⟩) m c3], .int .i64 0])) (w3.setCell ⟨w.heap.size + 1, 0, none⟩ (.slice (some ⟨g3, 0, none⟩) m c3)) := by
  have hl : (Ch.put L id s p is).length = m := by rw [Ch.put_len hp.le, hm, hk, hn]
  have hcell : icells (Ch.put L id s p is) = (icells (L.take p) ++ [.int .u64 id, .string s]) ++ (icells L).drop (k * 2) := by
    unfold Ch.put
    rw [icells_append, show ((id, s) :: L.drop (if is then p + 1 else p)) = [(id, s)] ++ L.drop (if is then p + 1 else p) from rfl, icells_append, ← hk, icells_drop, ← List.append_assoc]
    rfl
  refine ⟨p, is, hp, hw3.setCell (Nat.le_succ _) _, Or.inr ⟨hwz, some ⟨g3, 0, none⟩, c3, by rw [hl], by rw [hl]; exact hc, ?_⟩⟩
  rw [hl, hcell]
  rcases ho.2 with ⟨h, _⟩ | ⟨g, c, cur, h1, h2, h3, h4⟩
  · cases h
  · injection h1 with h1 _ h5
    injection h1 with h1
    injection h1 with h1
    subst h1
    have h6 : (w3.setCell ⟨w.heap.size + 1, 0, none⟩ (.slice (some ⟨g3, 0, none⟩) m c3)).ownsRow w1.heap.size 45 2 (.slice (some ⟨g3, 0, none⟩) m c3) m ((icells (L.take p) ++ [.int .u64 id, .string s]) ++ (icells L).drop (k * 2)) :=
      ⟨ho.1, Or.inr ⟨g3, c, cur, by rw [h5], h2, (Below.heap_setCell _ _ _ _ (by dsimp only; omega)).trans h3, h4⟩⟩
    exact Reads.of_own h6
set_option maxRecDepth 100000 in
set_option maxHeartbeats 4000000 in
theorem put_any (A : Option Addr) (n cap : Nat) (L : List Itm) (B : Nat) (w : World) (id : Int) (s : ByteArray) (hr : Reads w B 2 A n (icells L)) (hn : n = L.length) (hs : Ch.sorted L) (hB : B ≤ w.heap.size) (hm : n ≤ 1000) (hc : n ≤ cap) (hz : s.size ≤ 140737488355328) :
    Calls Tryz.prog 14 #[.agg #[.slice A n cap], .int .u64 id, .string s] w fun e w' => PutR A n cap L id s w e w' := by
  have HR := Lib.hid hr
  have HN := Lib.hid hn
  have HS := Lib.hid hs
  clear hr hn hs
  have hfull : ¬ (2048 : Int) ≤ (n : Int) := by omega
  have hfull2 : decide ((2048 : Int) ≤ (n : Int)) = false := decide_eq_false hfull
  go_enter Tryz.func14, Tryz.ntmps14
  go_wp2_with fail
  refine (place_any A n cap L B _ id ((HR.out.alloc hB _).alloc (by simp; omega) _) HN.out HS.out (by simp; omega) (by omega)).mono ?_; rintro e w1 ⟨⟨p, is, hp, rfl⟩, hb⟩
  obtain ⟨hA, hZ, _, _, hw⟩ := blk_two hb
  have HA := Lib.hid hA
  have HZ := Lib.hid hZ
  have HP := Lib.hid hp
  clear hb hA hZ hp
  obtain ⟨a0, _⟩ := blk_cell1 HA.out
  obtain ⟨b0, f0⟩ := blk_cell1 HZ.out
  have hwq : ¬ Ch.wr id s false = 0 → (Ch.wr id s false != 0) = true := fun h => by simpa using h
  have hpn := HP.out.le
  rw [← HN.out] at hpn
  have hp1 : (p : Int) ≤ (n : Int) := by omega
  have hp0 : (0 : Int) ≤ (p : Int) := by omega
  obtain ⟨i0, hi, iz0, iz1, iz2⟩ := info_parts item_info
  have hnone : A = none → p = 0 ∧ p = 0 := fun h => by
    rcases Nat.eq_zero_or_pos n with h0 | h0
    · exact ⟨by omega, by omega⟩
    · obtain ⟨ad, h1, _⟩ := HR.out.2 h0
      rw [h] at h1; cases h1
  have hold : ∀ w', Below w.heap.size w w' → ∀ b, A = some b → ∀ j u, (icells (L.take p))[j]? = some u → w'.cell? (b.add j) = some u := fun w' hb b hA j u hu => by
    have h := ((HR.out.more hB).below hb).take_ hpn
    rw [icells_take] at h
    rcases Nat.eq_zero_or_pos p with h0 | h0
    · subst h0; simp [icells] at hu
    · obtain ⟨ad, h1, _, h2⟩ := h.2 h0
      rw [hA] at h1; injection h1 with h1; subst h1
      exact h2 j u hu
  have HNONE := Lib.hid hnone
  have HOLD := Lib.hid hold
  clear hnone hold
  by_cases hwz : Ch.wr id s false = 0
  · have HWZ := Lib.hid hwz
    clear hwz hwq
    cases is with
    | false =>
      go_wp2_with fail
      refine (wrong_any _ _ _ _ hz).mono ?_; rintro e w2 ⟨he, rfl⟩
      rw [HWZ.out] at he
      subst he
      go_wp2_with fail
      refine wp_region_held_drew (S := (fun w' => w'.cell? ⟨w.heap.size, 0, none⟩ = some (.slice A n cap))) (by kernel_rfl) (by (try dsimp only); exact a0) (fun hHeld => ?_)
      simp only [List.size_toArray, List.length_cons, List.length_nil, Nat.zero_add, Nat.reduceAdd]
      refine held_take (i := 0) (v := ?_) rfl (by kernel_rfl) (by kernel_rfl) (by kernel_rfl) (fun _ _ _ h => h) (by rfl) ?_ (by assumption) ?_
      rotate_left
      · intro w hSw
        (try dsimp only at hSw)
        go_simp
        try with_reducible rfl
      try simp only [Act.put, List.setIfInBounds_toArray, List.set_cons_zero, List.set_cons_succ]
      refine held_take (i := 1) (v := ?_) rfl (by kernel_rfl) (by kernel_rfl) (by kernel_rfl) (fun _ _ _ h => h) (by rfl) ?_ (by assumption) ?_
      rotate_left
      · intro w hSw
        (try dsimp only at hSw)
        go_simp
        try with_reducible rfl
      try simp only [Act.put, List.setIfInBounds_toArray, List.set_cons_zero, List.set_cons_succ]
      refine held_take (i := 2) (v := ?_) rfl (by kernel_rfl) (by kernel_rfl) (by kernel_rfl) (fun _ _ _ h => h) (by rfl) ?_ (by assumption) ?_
      rotate_left
      · intro w hSw
        (try dsimp only at hSw)
        go_simp
        try with_reducible rfl
      try simp only [Act.put, List.setIfInBounds_toArray, List.set_cons_zero, List.set_cons_succ]
      refine held_take (i := 3) (v := ?_) rfl (by kernel_rfl) (by kernel_rfl) (by kernel_rfl) (fun _ _ _ h => h) (by rfl) ?_ (by assumption) ?_
      rotate_left
      · intro w hSw
        (try dsimp only at hSw)
        go_simp
        try with_reducible rfl
      try simp only [Act.put, List.setIfInBounds_toArray, List.set_cons_zero, List.set_cons_succ]
      refine held_take (i := 6) (v := ?_) rfl (by kernel_rfl) (by kernel_rfl) (by kernel_rfl) (fun _ _ _ h => h) (by rfl) ?_ (by assumption) ?_
      rotate_left
      · intro w hSw
        (try dsimp only at hSw)
        go_simp
        try with_reducible rfl
      try simp only [Act.put, List.setIfInBounds_toArray, List.set_cons_zero, List.set_cons_succ]
      refine held_take (i := 7) (v := ?_) rfl (by kernel_rfl) (by kernel_rfl) (by kernel_rfl) (fun _ _ _ h => h) (by rfl) ?_ (by assumption) ?_
      rotate_left
      · intro w hSw
        (try dsimp only at hSw)
        go_simp
        try with_reducible rfl
      try simp only [Act.put, List.setIfInBounds_toArray, List.set_cons_zero, List.set_cons_succ]
      refine held_take (i := 8) (v := ?_) rfl (by kernel_rfl) (by kernel_rfl) (by kernel_rfl) (fun _ _ _ h => h) (by rfl) ?_ (by assumption) ?_
      rotate_left
      · intro w hSw
        (try dsimp only at hSw)
        go_simp
        try with_reducible rfl
      try simp only [Act.put, List.setIfInBounds_toArray, List.set_cons_zero, List.set_cons_succ]
      refine held_take (i := 9) (v := ?_) rfl (by kernel_rfl) (by kernel_rfl) (by kernel_rfl) (fun _ _ _ h => h) (by rfl) ?_ (by assumption) ?_
      rotate_left
      · intro w hSw
        (try dsimp only at hSw)
        go_simp
        try with_reducible rfl
      try simp only [Act.put, List.setIfInBounds_toArray, List.set_cons_zero, List.set_cons_succ]
      refine held_call (i := 4) (by kernel_rfl) rfl (fun K hK => ?_)
      go_simp

      refine hK.out _ _ (by (try dsimp only); exact cell_al hHeld _) (fun hHeld => ?_)
      clear hK K
      try simp only [Act.put, List.setIfInBounds_toArray, List.set_cons_zero, List.set_cons_succ]
      refine held_call (i := 5) (by kernel_rfl) rfl (fun K hK => ?_)
      refine step_append_grows rfl (.tmp 43) (.tmp 47) 25 rfl 45 i0 _ 2 24 Tryz.underlying25 hi iz0 iz1 iz2 rfl (by omega) A p p (icells (L.take p)) rfl ?c0 ?c1 ?c2 ⟨w1.heap.size, 0, none⟩ 1 1 [.int .u64 id, .string s] rfl rfl ?c3 ?c4 (by omega) ?c5 ?c6 ?_
      case c0 => exact HNONE.out
      case c1 => rw [icells_len, List.length_take, ← HN.out, Nat.min_eq_left hpn]
      case c2 => exact HOLD.out _ (by first | exact blk_new1 hw _ | exact Below.drew (blk_new1 hw _))
      case c3 => exact news2 w1 id s
      case c4 => intro u hu; simp at hu; rcases hu with rfl | rfl <;> rfl
      case c5 => simp only [maxLen]; omega
      case c6 => omega
      intro v2 w2 hown2 hgr2
      have hb2 : Below w1.heap.size w1 w2 := (Below.drew (blk_new1 (Below.refl w1.heap.size w1) _)).grown hgr2 (by simp) (fun g hg => by cases hg)
      have hw2 := bthen hw hb2
      have HA2 := Lib.hid (blk_keep2 hb2 HA.out)
      obtain ⟨a0, _⟩ := blk_cell1 HA2.out
      have HO2 := Lib.hid hown2
      clear hown2 hgr2
      refine hK.out _ _ (by (try dsimp only); exact a0) (fun hHeld => ?_)
      clear hK K
      try simp only [Act.put, List.setIfInBounds_toArray, List.set_cons_zero, List.set_cons_succ]
      refine held_call (i := 10) (by kernel_rfl) rfl (fun K hK => ?_)
      refine step_append_any _ rfl (.tmp 48) (.tmp 52) 25 rfl w1.heap.size 45 i0 _ 2 24 Tryz.underlying25 hi iz0 iz1 iz2 rfl (by omega) v2 (p + 1) (icells (L.take p) ++ [.int .u64 id, .string s]) rfl (World.ownsRow.mono HO2.out (by simp)) B _ _ _ _ rfl (((HR.out.below (hw2.mono hB)).cut (k := p) (by omega) hc)) ?c0 ?c1 ?c2 ?c3 ?_
      case c0 => rw [icells_drop]; exact icells_one _
      case c1 => simp only [maxLen]; omega
      case c2 => omega
      case c3 => exact hb2.size
      intro v3 w3 hown3 hgr3 _
      have hb3 : Below w1.heap.size w1 w3 := hb2.grown hgr3 hb2.size (fun g hg => Nat.le_trans (by simp) ((HO2.out.lt g hg).1))
      obtain ⟨g3, c3, hv3, hg3, hg3l⟩ := hown3.form (by omega)
      subst hv3
      have hc3 := own_cap hown3
      obtain ⟨m, hm⟩ : ∃ m, m = p + 1 + (n - p) := ⟨_, rfl⟩
      rw [← hm] at hown3 hc3 ⊢
      have HMM := Lib.hid hm
      clear hm
      have HO3 := Lib.hid hown3
      have hw3 := bthen hw hb3
      have HA3 := Lib.hid (blk_keep2 hb3 HA.out)
      have HZ3 := Lib.hid (blk_keep2 hb3 HZ.out)
      clear a0 b0 f0 hown3 hgr3
      obtain ⟨a0, _⟩ := blk_cell1 HA3.out
      obtain ⟨b0, f0⟩ := blk_cell1 HZ3.out
      refine hK.out _ _ (by (try dsimp only); exact a0) (fun hHeld => ?_)
      clear hK K
      try simp only [Act.put, List.setIfInBounds_toArray, List.set_cons_zero, List.set_cons_succ]
      refine held_take (i := 11) (v := ?_) rfl (by kernel_rfl) (by kernel_rfl) (by kernel_rfl) (fun _ _ _ h => h) (by rfl) ?_ (by assumption) ?_
      rotate_left
      · intro w hSw
        (try dsimp only at hSw)
        go_simp
        try with_reducible rfl
      try simp only [Act.put, List.setIfInBounds_toArray, List.set_cons_zero, List.set_cons_succ]
      refine held_call (i := 12) (by kernel_rfl) rfl (fun K hK => ?_)
      go_simp

      refine hK.out _ _ (by (try dsimp only); exact ((((Below.refl (w.heap.size + 1) w3).setCell (Nat.le_refl _) _).cell (p := ⟨w.heap.size, 0, none⟩) (by simp)).trans a0)) (fun hHeld => ?_)
      clear hK K
      try simp only [Act.put, List.setIfInBounds_toArray, List.set_cons_zero, List.set_cons_succ]
      refine held_take (i := 13) (v := ?_) rfl (by kernel_rfl) (by kernel_rfl) (by kernel_rfl) (fun _ _ _ h => h) (by rfl) ?_ (by assumption) ?_
      rotate_left
      · intro w hSw
        (try dsimp only at hSw)
        go_simp
        try with_reducible rfl
      try simp only [Act.put, List.setIfInBounds_toArray, List.set_cons_zero, List.set_cons_succ]
      refine wpAnyH_done (by kernel_rfl) ?_ _
      go_wp2_with fail
      all_goals
        exact bodyPost_ret (v := .tuple #[.agg #[.slice (some ⟨g3, 0, none⟩) m c3], .int .i64 0]) (by simp [results, Tryz.results14, go_sem, b0]) rfl (put_end HP.out HWZ.out HN.out hw3 HO3.out (by have := blk_lt HZ.out; omega) hc3 (by rfl) HMM.out)
    | true =>
      go_wp2_with fail
      have hp2 : p + 1 ≤ n := by
        obtain ⟨h1, _⟩ := HP.out.here.1 rfl
        rw [HN.out]; omega
      have hp3 : ((p : Int) + 1) ≤ (n : Int) := by omega
      have hp4 : (0 : Int) ≤ (p : Int) + 1 := by omega
      refine (wrong_any _ _ _ _ hz).mono ?_; rintro e w2 ⟨he, rfl⟩
      rw [HWZ.out] at he
      subst he
      go_wp2_with fail
      refine wp_region_held_drew (S := (fun w' => w'.cell? ⟨w.heap.size, 0, none⟩ = some (.slice A n cap))) (by kernel_rfl) (by (try dsimp only); exact a0) (fun hHeld => ?_)
      simp only [List.size_toArray, List.length_cons, List.length_nil, Nat.zero_add, Nat.reduceAdd]
      refine held_take (i := 0) (v := ?_) rfl (by kernel_rfl) (by kernel_rfl) (by kernel_rfl) (fun _ _ _ h => h) (by rfl) ?_ (by assumption) ?_
      rotate_left
      · intro w hSw
        (try dsimp only at hSw)
        go_simp
        try with_reducible rfl
      try simp only [Act.put, List.setIfInBounds_toArray, List.set_cons_zero, List.set_cons_succ]
      refine held_take (i := 1) (v := ?_) rfl (by kernel_rfl) (by kernel_rfl) (by kernel_rfl) (fun _ _ _ h => h) (by rfl) ?_ (by assumption) ?_
      rotate_left
      · intro w hSw
        (try dsimp only at hSw)
        go_simp
        try with_reducible rfl
      try simp only [Act.put, List.setIfInBounds_toArray, List.set_cons_zero, List.set_cons_succ]
      refine held_take (i := 2) (v := ?_) rfl (by kernel_rfl) (by kernel_rfl) (by kernel_rfl) (fun _ _ _ h => h) (by rfl) ?_ (by assumption) ?_
      rotate_left
      · intro w hSw
        (try dsimp only at hSw)
        go_simp
        try with_reducible rfl
      try simp only [Act.put, List.setIfInBounds_toArray, List.set_cons_zero, List.set_cons_succ]
      refine held_take (i := 3) (v := ?_) rfl (by kernel_rfl) (by kernel_rfl) (by kernel_rfl) (fun _ _ _ h => h) (by rfl) ?_ (by assumption) ?_
      rotate_left
      · intro w hSw
        (try dsimp only at hSw)
        go_simp
        try with_reducible rfl
      try simp only [Act.put, List.setIfInBounds_toArray, List.set_cons_zero, List.set_cons_succ]
      refine held_take (i := 6) (v := ?_) rfl (by kernel_rfl) (by kernel_rfl) (by kernel_rfl) (fun _ _ _ h => h) (by rfl) ?_ (by assumption) ?_
      rotate_left
      · intro w hSw
        (try dsimp only at hSw)
        go_simp
        try with_reducible rfl
      try simp only [Act.put, List.setIfInBounds_toArray, List.set_cons_zero, List.set_cons_succ]
      refine held_take (i := 7) (v := ?_) rfl (by kernel_rfl) (by kernel_rfl) (by kernel_rfl) (fun _ _ _ h => h) (by rfl) ?_ (by assumption) ?_
      rotate_left
      · intro w hSw
        (try dsimp only at hSw)
        go_simp
        try with_reducible rfl
      try simp only [Act.put, List.setIfInBounds_toArray, List.set_cons_zero, List.set_cons_succ]
      refine held_take (i := 8) (v := ?_) rfl (by kernel_rfl) (by kernel_rfl) (by kernel_rfl) (fun _ _ _ h => h) (by rfl) ?_ (by assumption) ?_
      rotate_left
      · intro w hSw
        (try dsimp only at hSw)
        go_simp
        try with_reducible rfl
      try simp only [Act.put, List.setIfInBounds_toArray, List.set_cons_zero, List.set_cons_succ]
      refine held_take (i := 9) (v := ?_) rfl (by kernel_rfl) (by kernel_rfl) (by kernel_rfl) (fun _ _ _ h => h) (by rfl) ?_ (by assumption) ?_
      rotate_left
      · intro w hSw
        (try dsimp only at hSw)
        go_simp
        try with_reducible rfl
      try simp only [Act.put, List.setIfInBounds_toArray, List.set_cons_zero, List.set_cons_succ]
      refine held_call (i := 4) (by kernel_rfl) rfl (fun K hK => ?_)
      go_simp

      refine hK.out _ _ (by (try dsimp only); exact cell_al hHeld _) (fun hHeld => ?_)
      clear hK K
      try simp only [Act.put, List.setIfInBounds_toArray, List.set_cons_zero, List.set_cons_succ]
      refine held_call (i := 5) (by kernel_rfl) rfl (fun K hK => ?_)
      refine step_append_grows rfl (.tmp 43) (.tmp 47) 25 rfl 45 i0 _ 2 24 Tryz.underlying25 hi iz0 iz1 iz2 rfl (by omega) A p p (icells (L.take p)) rfl ?c0 ?c1 ?c2 ⟨w1.heap.size, 0, none⟩ 1 1 [.int .u64 id, .string s] rfl rfl ?c3 ?c4 (by omega) ?c5 ?c6 ?_
      case c0 => exact HNONE.out
      case c1 => rw [icells_len, List.length_take, ← HN.out, Nat.min_eq_left hpn]
      case c2 => exact HOLD.out _ (by first | exact blk_new1 hw _ | exact Below.drew (blk_new1 hw _))
      case c3 => exact news2 w1 id s
      case c4 => intro u hu; simp at hu; rcases hu with rfl | rfl <;> rfl
      case c5 => simp only [maxLen]; omega
      case c6 => omega
      intro v2 w2 hown2 hgr2
      have hb2 : Below w1.heap.size w1 w2 := (Below.drew (blk_new1 (Below.refl w1.heap.size w1) _)).grown hgr2 (by simp) (fun g hg => by cases hg)
      have hw2 := bthen hw hb2
      have HA2 := Lib.hid (blk_keep2 hb2 HA.out)
      obtain ⟨a0, _⟩ := blk_cell1 HA2.out
      have HO2 := Lib.hid hown2
      clear hown2 hgr2
      refine hK.out _ _ (by (try dsimp only); exact a0) (fun hHeld => ?_)
      clear hK K
      try simp only [Act.put, List.setIfInBounds_toArray, List.set_cons_zero, List.set_cons_succ]
      refine held_call (i := 10) (by kernel_rfl) rfl (fun K hK => ?_)
      refine step_append_any _ rfl (.tmp 48) (.tmp 52) 25 rfl w1.heap.size 45 i0 _ 2 24 Tryz.underlying25 hi iz0 iz1 iz2 rfl (by omega) v2 (p + 1) (icells (L.take p) ++ [.int .u64 id, .string s]) rfl (World.ownsRow.mono HO2.out (by simp)) B _ _ _ _ rfl (((HR.out.below (hw2.mono hB)).cut (k := (p + 1)) (by omega) hc)) ?c0 ?c1 ?c2 ?c3 ?_
      case c0 => rw [icells_drop]; exact icells_one _
      case c1 => simp only [maxLen]; omega
      case c2 => omega
      case c3 => exact hb2.size
      intro v3 w3 hown3 hgr3 _
      have hb3 : Below w1.heap.size w1 w3 := hb2.grown hgr3 hb2.size (fun g hg => Nat.le_trans (by simp) ((HO2.out.lt g hg).1))
      obtain ⟨g3, c3, hv3, hg3, hg3l⟩ := hown3.form (by omega)
      subst hv3
      have hc3 := own_cap hown3
      obtain ⟨m, hm⟩ : ∃ m, m = p + 1 + (n - (p + 1)) := ⟨_, rfl⟩
      rw [← hm] at hown3 hc3 ⊢
      have HMM := Lib.hid hm
      clear hm
      have HO3 := Lib.hid hown3
      have hw3 := bthen hw hb3
      have HA3 := Lib.hid (blk_keep2 hb3 HA.out)
      have HZ3 := Lib.hid (blk_keep2 hb3 HZ.out)
      clear a0 b0 f0 hown3 hgr3
      obtain ⟨a0, _⟩ := blk_cell1 HA3.out
      obtain ⟨b0, f0⟩ := blk_cell1 HZ3.out
      refine hK.out _ _ (by (try dsimp only); exact a0) (fun hHeld => ?_)
      clear hK K
      try simp only [Act.put, List.setIfInBounds_toArray, List.set_cons_zero, List.set_cons_succ]
      refine held_take (i := 11) (v := ?_) rfl (by kernel_rfl) (by kernel_rfl) (by kernel_rfl) (fun _ _ _ h => h) (by rfl) ?_ (by assumption) ?_
      rotate_left
      · intro w hSw
        (try dsimp only at hSw)
        go_simp
        try with_reducible rfl
      try simp only [Act.put, List.setIfInBounds_toArray, List.set_cons_zero, List.set_cons_succ]
      refine held_call (i := 12) (by kernel_rfl) rfl (fun K hK => ?_)
      go_simp

      refine hK.out _ _ (by (try dsimp only); exact ((((Below.refl (w.heap.size + 1) w3).setCell (Nat.le_refl _) _).cell (p := ⟨w.heap.size, 0, none⟩) (by simp)).trans a0)) (fun hHeld => ?_)
      clear hK K
      try simp only [Act.put, List.setIfInBounds_toArray, List.set_cons_zero, List.set_cons_succ]
      refine held_take (i := 13) (v := ?_) rfl (by kernel_rfl) (by kernel_rfl) (by kernel_rfl) (fun _ _ _ h => h) (by rfl) ?_ (by assumption) ?_
      rotate_left
      · intro w hSw
        (try dsimp only at hSw)
        go_simp
        try with_reducible rfl
      try simp only [Act.put, List.setIfInBounds_toArray, List.set_cons_zero, List.set_cons_succ]
      refine wpAnyH_done (by kernel_rfl) ?_ _
      go_wp2_with fail
      all_goals
        exact bodyPost_ret (v := .tuple #[.agg #[.slice (some ⟨g3, 0, none⟩) m c3], .int .i64 0]) (by simp [results, Tryz.results14, go_sem, b0]) rfl (put_end HP.out HWZ.out HN.out hw3 HO3.out (by have := blk_lt HZ.out; omega) hc3 (by rfl) HMM.out)
  · have HWQ := Lib.hid (hwq hwz)
    have HWNZ := Lib.hid hwz
    have hwq := HWQ.out
    clear hwz
    cases is with
    | false =>
      go_wp2_with fail
      refine (wrong_any _ _ _ _ hz).mono ?_; rintro e w2 ⟨rfl, rfl⟩
      go_wp2_with fail
      exact bodyPost_ret (v := .tuple #[.agg #[.slice A n cap], .int .i64 (Ch.wr id s false)]) (by simp [results, Tryz.results14, go_sem, b0]) rfl ⟨p, false, HP.out, hw.setCell (Nat.le_succ _) _, Or.inl ⟨HWNZ.out, rfl⟩⟩
    | true =>
      go_wp2_with fail
      refine (wrong_any _ _ _ _ hz).mono ?_; rintro e w2 ⟨rfl, rfl⟩
      go_wp2_with fail
      exact bodyPost_ret (v := .tuple #[.agg #[.slice A n cap], .int .i64 (Ch.wr id s false)]) (by simp [results, Tryz.results14, go_sem, b0]) rfl ⟨p, true, HP.out, hw.setCell (Nat.le_succ _) _, Or.inl ⟨HWNZ.out, rfl⟩⟩
end Go.Proofs.YtlfahmdndlmhpaaGreatDoor
namespace Go.Proofs.YtlfahmdndlmhpaaGreatDoor
open Go.RowKit

/-- small enough, where it is told that it is not over -/
def OverPost (L : List Itm) (w : World) (e : Ending) (w' : World) : Prop := ∃ b, e = .returned (.bool b) ∧ (b = false → L.length ≤ 60 ∧ It.sum L ≤ 3000) ∧ w = w'
theorem over_any (A : Option Addr) (n cap : Nat) (L : List Itm) (B : Nat) (w : World) (hr : Reads w B 2 A n (icells L)) (hn : n = L.length) (hz : ∀ e ∈ L, e.2.size ≤ 140737488355328) (hm : n * 24 ≤ 140737488355328) :
    Calls Tryz.prog 4 #[.slice A n cap, .int .i64 60, .int .i64 3000] w (OverPost L w) := by
  have HR := Lib.hid hr
  have HN := Lib.hid hn
  have HZ := Lib.hid hz
  clear hr hn hz
  go_enter Tryz.func4, Tryz.ntmps4
  go_wp2_with fail
  go_loop [2, 7] (fun cb ci => ∃ (k : Nat) (b : Int), k ≤ n ∧ ci = .int .i64 k ∧ cb = .int .i64 b ∧ 0 ≤ b ∧ Hid (b = 3000 - (It.sum (L.take k) : Int)) ∧ b ≤ 3000) (fun _ ci => n - (intOf ci).toNat)
  case atStart => exact ⟨0, 3000, by omega, rfl, rfl, by omega, Lib.hid (by simp [It.sum]), by omega⟩
  case round =>
    obtain ⟨k, b, hk, rfl, rfl, hb0, HB, hb1⟩ := hrel
    by_cases hlt : k < n
    · have hlt' : k < L.length := by rw [← HN.out]; omega
      obtain ⟨g, off, hA, hgB⟩ := HR.out.iplain (by omega) HN.out
      have HR' := HR.out
      rw [hA] at HR'
      subst hA
      obtain ⟨c0, c1⟩ := HR'.itm HN.out k hlt'
      have hst := It.sum_take L k hlt'
      have hsz := HZ.out _ (List.getElem_mem hlt')
      obtain ⟨⟨i, s⟩, he⟩ : ∃ e, e = L[k]'hlt' := ⟨_, rfl⟩
      rw [← he] at c0 c1 hst hsz
      dsimp only at hst hsz
      have HST := Lib.hid hst
      clear he HR' hst
      by_cases hneg : b - (s.size : Int) < 0
      · go_wp2_with fail
        go_ret
        exact ⟨true, rfl, (fun h => by cases h), rfl⟩
      · have hge : (s.size : Int) ≤ b := by omega
        go_wp2_with fail
        go_round
        case rel => exact ⟨k + 1, b - s.size, by omega, by go_num, by go_num, by omega, Lib.hid (by rw [HST.out, HB.out]; omega), by omega⟩
        case measure => simp [intOf]; omega
    · obtain rfl : k = n := by omega
      have hfin : k ≤ 60 → L.length ≤ 60 ∧ It.sum L ≤ 3000 := fun h => by
        have h1 := HB.out
        rw [HN.out, List.take_length] at h1
        exact ⟨by rw [← HN.out]; exact h, by omega⟩
      have HF := Lib.hid hfin
      clear hfin
      by_cases h60 : k ≤ 60
      · have hd : ¬ ((k : Int) > 60) := by omega
        go_wp2_with fail
        go_ret
        exact ⟨false, by simp <;> omega, fun _ => HF.out h60, rfl⟩
      · have hd : ((k : Int) > 60) := by omega
        go_wp2_with fail
        go_ret
        exact ⟨true, by simp <;> omega, (fun h => by cases h), rfl⟩

/-- what putting an item tells, be it put or not -/
def PutO (L : List Itm) (s : ByteArray) (w : World) (e : Ending) (w' : World) : Prop :=
  ∃ A m c M f, e = .returned (.tuple #[.agg #[.slice A m c], .int .i64 f]) ∧ m = M.length ∧ m ≤ c ∧ Reads w' w'.heap.size 2 A m (icells M) ∧ It.ok M ∧ It.sum M ≤ It.sum L + s.size ∧ m ≤ L.length + 1 ∧ Below w.heap.size w w'
theorem put_own (A : Option Addr) (n cap : Nat) (L : List Itm) (B : Nat) (w : World) (id : Int) (s : ByteArray) (hr : Reads w B 2 A n (icells L)) (hn : n = L.length) (hs : It.ok L) (h0 : 0 ≤ id) (hB : B ≤ w.heap.size) (hm : n ≤ 1000) (hc : n ≤ cap) (hz : s.size ≤ 140737488355328) :
    Calls Tryz.prog 14 #[.agg #[.slice A n cap], .int .u64 id, .string s] w (PutO L s w) := by
  refine (put_any A n cap L B w id s hr hn hs.rise hB hm hc hz).mono ?_
  rintro e w' ⟨p, is, hp, hb, ⟨_, rfl⟩ | ⟨h0', A', c', rfl, hc', hr'⟩⟩
  · exact ⟨A, n, cap, L, _, rfl, hn, hc, (hr.below (hb.mono hB)).more (Nat.le_trans hB hb.size), hs, by omega, by omega, hb⟩
  · exact ⟨A', _, c', _, 0, rfl, rfl, hc', hr', Ch.put_ok hs hp h0 h0', Ch.put_sum L id s p is, Ch.put_le hp, hb⟩

theorem Reads.set_other {w : World} {B n h : Nat} {A : Option Addr} {M : List Itm} {A' : Option Addr} {m c : Nat} {t : TypeId} {fr : Nat × Nat} (hr : Reads w B 2 A n (icells M)) (hv : w.heap[h]? = some (.cells #[.slice A' m c] t fr)) (u : Value) : Reads (w.setCell ⟨h, 0, none⟩ u) B 2 A n (icells M) := by
  refine ⟨hr.1, fun hn => ?_⟩
  obtain ⟨ad, e, hb, hc⟩ := hr.2 hn
  refine ⟨ad, e, hb, fun j x hx => ?_⟩
  rw [World.cell?_setCell_other w ⟨h, 0, none⟩ (ad.add j) u ?_]
  · exact hc j x hx
  · intro q
    have h1 := hc j x hx
    have h2 : w.cell? ⟨h, 0, none⟩ = some (.slice A' m c) := cell_of_row w h 0 _ _ _ hv
    first | rw [q, h2] at h1 | rw [← q, h2] at h1
    injection h1 with h1
    have h3 := List.mem_of_getElem? hx
    rw [← h1] at h3
    unfold icells at h3
    obtain ⟨p, _, h4⟩ := List.mem_flatMap.1 h3
    simp [It.vals] at h4
def OwnsPost (b : Nat) (w : World) (e : Ending) (w' : World) : Prop :=
  ∃ A m c M v, e = .returned (.tuple #[.agg #[.slice A m c], v]) ∧ m = M.length ∧ m ≤ c ∧ Reads w' w'.heap.size 2 A m (icells M) ∧ It.ok M ∧ It.sum M ≤ b ∧ m ≤ 60 ∧ Below w.heap.size w w'
set_option maxRecDepth 100000 in
set_option maxHeartbeats 4000000 in
theorem own12_any (A : Option Addr) (n cap : Nat) (L : List Itm) (B : Nat) (w : World) (hr : Reads w B 2 A n (icells L)) (hn : n = L.length) (hi : ∀ e ∈ L, 0 ≤ e.1) (hz : ∀ e ∈ L, e.2.size ≤ 140737488355328) (hB : B ≤ w.heap.size) (hm : n ≤ 60) (hb : It.sum L ≤ 3000) :
    Calls Tryz.prog 6 #[.slice A n cap] w (OwnsPost 3000 w) := by
  have HR := Lib.hid hr
  have HN := Lib.hid hn
  have HZ := Lib.hid (And.intro hi hz)
  have HB := Lib.hid hb
  clear hr hn hz hi hb
  go_enter Tryz.func6, Tryz.ntmps6
  go_wp2_with fail
  go_loopw [5, 6] (fun cd ci wr => ∃ k AC nc cc M AD nd cdd D, k ≤ n ∧ ci = .int .i64 ((k : Nat) : Int) ∧ cd = .slice AD nd cdd ∧ Hid (wr.heap[w.heap.size + 1]? = some (.cells #[.slice AC nc cc] 27 (0, 0))) ∧ Hid (wr.heap[w.heap.size]? = some (.cells #[.slice none 0 0] 27 (0, 0))) ∧
    Hid (nc = M.length) ∧ nc ≤ cc ∧ nc ≤ k ∧ Hid (Reads wr wr.heap.size 2 AC nc (icells M)) ∧ Hid (It.ok M) ∧ Hid (It.sum M ≤ It.sum (L.take k)) ∧ Hid (nd = D.length) ∧ nd ≤ k ∧ Hid (Reads wr wr.heap.size 2 AD nd (icells D)) ∧ Below w.heap.size w wr) (fun _ ci _ => n - (intOf ci).toNat)
  case atStart => exact ⟨0, none, 0, 0, [], none, 0, 0, [], by omega, rfl, rfl, Lib.hid (heap_at (by simp)), Lib.hid (blk_alloc (heap_alloc_new w _) _), Lib.hid rfl, by omega, by omega, Lib.hid Reads.none_, Lib.hid It.ok_nil, Lib.hid (by simp [It.sum]), Lib.hid rfl, by omega, Lib.hid Reads.none_, (by repeat (first | with_reducible exact Below.refl _ _ | with_reducible assumption | with_reducible refine Below.setCell ?_ (by first | (simp; done) | (simp; omega) | omega) _ | with_reducible refine Below.alloc ?_ (by first | exact Nat.le_refl _ | (simp; done) | (simp; omega) | omega) _ | with_reducible refine Below.drew ?_))⟩
  case round =>
    obtain ⟨k, AC, nc, cc, M, AD, nd, cdd, D, hk, rfl, rfl, HC, H2, HNC, hcc, hck, HRC, HOK, HS, HND, hdk, HRD, hbl⟩ := hrel
    have hS : w.heap.size ≤ wr.heap.size := hbl.size
    by_cases hlt : k < n
    · have hlt' : k < L.length := by rw [← HN.out]; omega
      obtain ⟨g, off, hA, hgB⟩ := HR.out.iplain (by omega) HN.out
      have HR' := HR.out
      rw [hA] at HR'
      subst hA
      obtain ⟨c0, c1⟩ := ((HR'.more hB).below hbl).itm HN.out k hlt'
      have hst := It.sum_take L k hlt'
      obtain ⟨hi0, hsz⟩ := And.intro (HZ.out.1 _ (List.getElem_mem hlt')) (HZ.out.2 _ (List.getElem_mem hlt'))
      obtain ⟨⟨i, s⟩, he⟩ : ∃ e, e = L[k]'hlt' := ⟨_, rfl⟩
      rw [← he] at c0 c1 hst hsz hi0
      dsimp only at hst hsz hi0
      have HST := Lib.hid hst
      have HBL := Lib.hid hbl
      have a0 := cell_of_row wr (w.heap.size + 1) 0 _ _ _ HC.out
      have hgl : g < wr.heap.size := by omega
      have hw1l : w.heap.size + 1 < wr.heap.size := blk_lt HC.out
      have HE := Lib.hid he
      clear he HR' hst hbl
      go_upto_region 6 with (fail)
      go_cut [7, 8] from 11 to 52 (fun c7 c8 wx => ∃ h A1 m1 cc1 M1 f1, c7 = .pointer (some ⟨h, 0, none⟩) ∧ c8 = .int .i64 f1 ∧ Hid (wx.heap[h]? = some (.cells #[.slice A1 m1 cc1] 27 (0, 0))) ∧ w.heap.size + 1 < h ∧ Hid (wx.heap[w.heap.size + 1]? = some (.cells #[.slice AC nc cc] 27 (0, 0))) ∧ Hid (wx.heap[w.heap.size]? = some (.cells #[.slice none 0 0] 27 (0, 0))) ∧
        Hid (m1 = M1.length) ∧ m1 ≤ cc1 ∧ m1 ≤ k + 1 ∧ Hid (Reads wx wx.heap.size 2 A1 m1 (icells M1)) ∧ Hid (It.ok M1) ∧ Hid (It.sum M1 ≤ It.sum M + s.size) ∧ Hid (Reads wx wx.heap.size 2 AD nd (icells D)) ∧ Hid (Reads wx wx.heap.size 2 AC nc (icells M)) ∧ Below w.heap.size w wx)
      case first =>
        refine wp_region_held_drew (S := (fun w' => w'.cell? ⟨w.heap.size + 1, 0, none⟩ = some (.slice AC nc cc) ∧ w'.cell? ⟨g, off + k * 2, none⟩ = some (.int .u64 i) ∧ w'.cell? ⟨g, off + k * 2 + 1, none⟩ = some (.string s))) (by kernel_rfl) (by (try dsimp only); exact ⟨a0, c0, c1⟩) (fun hHeld => ?_)
        simp only [List.size_toArray, List.length_cons, List.length_nil, Nat.zero_add, Nat.reduceAdd]
        refine held_take (i := 0) (v := ?_) rfl (by kernel_rfl) (by kernel_rfl) (by kernel_rfl) (fun _ _ _ h => h) (by rfl) ?_ (by assumption) ?_
        rotate_left
        · intro w hSw
          (try dsimp only at hSw)
          go_simp
          try with_reducible rfl
        try simp only [Act.put, List.setIfInBounds_toArray, List.set_cons_zero, List.set_cons_succ]
        refine held_take (i := 1) (v := ?_) rfl (by kernel_rfl) (by kernel_rfl) (by kernel_rfl) (fun _ _ _ h => h) (by rfl) ?_ (by assumption) ?_
        rotate_left
        · intro w hSw
          (try dsimp only at hSw)
          go_simp
          try with_reducible rfl
        try simp only [Act.put, List.setIfInBounds_toArray, List.set_cons_zero, List.set_cons_succ]
        refine held_take (i := 2) (v := ?_) rfl (by kernel_rfl) (by kernel_rfl) (by kernel_rfl) (fun _ _ _ h => h) (by rfl) ?_ (by assumption) ?_
        rotate_left
        · intro w hSw
          (try dsimp only at hSw)
          go_simp
          try with_reducible rfl
        try simp only [Act.put, List.setIfInBounds_toArray, List.set_cons_zero, List.set_cons_succ]
        refine held_take (i := 3) (v := ?_) rfl (by kernel_rfl) (by kernel_rfl) (by kernel_rfl) (fun _ _ _ h => h) (by rfl) ?_ (by assumption) ?_
        rotate_left
        · intro w hSw
          (try dsimp only at hSw)
          go_simp
          try with_reducible rfl
        try simp only [Act.put, List.setIfInBounds_toArray, List.set_cons_zero, List.set_cons_succ]
        refine held_take (i := 4) (v := ?_) rfl (by kernel_rfl) (by kernel_rfl) (by kernel_rfl) (fun _ _ _ h => h) (by rfl) ?_ (by assumption) ?_
        rotate_left
        · intro w hSw
          (try dsimp only at hSw)
          go_simp
          try with_reducible rfl
        try simp only [Act.put, List.setIfInBounds_toArray, List.set_cons_zero, List.set_cons_succ]
        refine held_take (i := 5) (v := ?_) rfl (by kernel_rfl) (by kernel_rfl) (by kernel_rfl) (fun _ _ _ h => h) (by rfl) ?_ (by assumption) ?_
        rotate_left
        · intro w hSw
          (try dsimp only at hSw)
          go_simp
          try with_reducible rfl
        try simp only [Act.put, List.setIfInBounds_toArray, List.set_cons_zero, List.set_cons_succ]
        refine held_take (i := 6) (v := ?_) rfl (by kernel_rfl) (by kernel_rfl) (by kernel_rfl) (fun _ _ _ h => h) (by rfl) ?_ (by assumption) ?_
        rotate_left
        · intro w hSw
          (try dsimp only at hSw)
          go_simp
          try with_reducible rfl
        try simp only [Act.put, List.setIfInBounds_toArray, List.set_cons_zero, List.set_cons_succ]
        refine held_take (i := 7) (v := ?_) rfl (by kernel_rfl) (by kernel_rfl) (by kernel_rfl) (fun _ _ _ h => h) (by rfl) ?_ (by assumption) ?_
        rotate_left
        · intro w hSw
          (try dsimp only at hSw)
          go_simp
          try with_reducible rfl
        try simp only [Act.put, List.setIfInBounds_toArray, List.set_cons_zero, List.set_cons_succ]
        refine held_take (i := 8) (v := ?_) rfl (by kernel_rfl) (by kernel_rfl) (by kernel_rfl) (fun _ _ _ h => h) (by rfl) ?_ (by assumption) ?_
        rotate_left
        · intro w hSw
          (try dsimp only at hSw)
          go_simp
          try with_reducible rfl
        try simp only [Act.put, List.setIfInBounds_toArray, List.set_cons_zero, List.set_cons_succ]
        refine held_take (i := 9) (v := ?_) rfl (by kernel_rfl) (by kernel_rfl) (by kernel_rfl) (fun _ _ _ h => h) (by rfl) ?_ (by assumption) ?_
        rotate_left
        · intro w hSw
          (try dsimp only at hSw)
          go_simp
          try with_reducible rfl
        try simp only [Act.put, List.setIfInBounds_toArray, List.set_cons_zero, List.set_cons_succ]
        refine held_take (i := 10) (v := ?_) rfl (by kernel_rfl) (by kernel_rfl) (by kernel_rfl) (fun _ _ _ h => h) (by rfl) ?_ (by assumption) ?_
        rotate_left
        · intro w hSw
          (try dsimp only at hSw)
          go_simp
          try with_reducible rfl
        try simp only [Act.put, List.setIfInBounds_toArray, List.set_cons_zero, List.set_cons_succ]
        refine held_two (i := 11) (j := 15) (by kernel_rfl) rfl rfl (fun K hK => ?_) (fun K hK => ?_)
        · skip
          go_simp
          refine (put_own AC nc cc M wr.heap.size _ i s HRC.out.drew HNC.out HOK.out hi0 (Nat.le_refl _) (by omega) hcc hsz).mono ?_
          rintro e w1 ⟨A1, m1, cc1, M1, f1, rfl, hm1, hc1, hr1, hok1, hs1, hl1, hb1⟩
          have HM1 := Lib.hid hm1
          have HR1 := Lib.hid hr1
          have HOK1 := Lib.hid hok1
          have HS1 := Lib.hid hs1
          have hl2 : m1 ≤ k + 1 := (by have := HNC.out; omega)
          have HW1 := Lib.hid (HBL.out.drew.trans (hb1.mono hS))
          have HC1 := Lib.hid (blk_keep2 hb1 HC.out)
          have H21 := Lib.hid (blk_keep2 hb1 H2.out)
          have HRD1 := Lib.hid ((HRD.out.drew.below hb1).more hb1.size)
          have HRC1 := Lib.hid ((HRC.out.drew.below hb1).more hb1.size)
          have hz1 : wr.heap.size ≤ w1.heap.size := hb1.size
          clear hm1 hr1 hok1 hs1 hl1 hb1 a0 c0 c1
          have a0 := cell_of_row w1 (w.heap.size + 1) 0 _ _ _ HC1.out
          obtain ⟨c0, c1⟩ := ((HR.out.more hB).below HW1.out).itm HN.out k hlt'
          rw [← HE.out] at c0 c1
          refine hK.out _ _ (by (try dsimp only); exact ⟨a0, c0, c1⟩) (fun hHeld => ?_)
          clear hK K
          try simp only [Act.put, List.setIfInBounds_toArray, List.set_cons_zero, List.set_cons_succ]
          refine held_take (i := 12) (v := ?_) rfl (by kernel_rfl) (by kernel_rfl) (by kernel_rfl) (fun _ _ _ h => h) (by rfl) ?_ (by assumption) ?_
          rotate_left
          · intro w hSw
            (try dsimp only at hSw)
            go_simp
            try with_reducible rfl
          try simp only [Act.put, List.setIfInBounds_toArray, List.set_cons_zero, List.set_cons_succ]
          refine held_take (i := 13) (v := ?_) rfl (by kernel_rfl) (by kernel_rfl) (by kernel_rfl) (fun _ _ _ h => h) (by rfl) ?_ (by assumption) ?_
          rotate_left
          · intro w hSw
            (try dsimp only at hSw)
            go_simp
            try with_reducible rfl
          try simp only [Act.put, List.setIfInBounds_toArray, List.set_cons_zero, List.set_cons_succ]
          refine held_take (i := 14) (v := ?_) rfl (by kernel_rfl) (by kernel_rfl) (by kernel_rfl) (fun _ _ _ h => h) (by rfl) ?_ (by assumption) ?_
          rotate_left
          · intro w hSw
            (try dsimp only at hSw)
            go_simp
            try with_reducible rfl
          try simp only [Act.put, List.setIfInBounds_toArray, List.set_cons_zero, List.set_cons_succ]
          refine held_call (i := 15) (by kernel_rfl) rfl (fun K hK => ?_)
          go_simp
          skip
          refine hK.out _ _ (by (try dsimp only); exact ⟨cell_al a0 _, cell_al c0 _, cell_al c1 _⟩) (fun hHeld => ?_)
          clear hK K
          try simp only [Act.put, List.setIfInBounds_toArray, List.set_cons_zero, List.set_cons_succ]
          refine held_call (i := 16) (by kernel_rfl) rfl (fun K hK => ?_)
          go_simp
          skip
          refine hK.out _ _ (by (try dsimp only); exact ⟨cell_al a0 _, cell_al c0 _, cell_al c1 _⟩) (fun hHeld => ?_)
          clear hK K
          try simp only [Act.put, List.setIfInBounds_toArray, List.set_cons_zero, List.set_cons_succ]
          refine held_take (i := 17) (v := ?_) rfl (by kernel_rfl) (by kernel_rfl) (by kernel_rfl) (fun _ _ _ h => h) (by rfl) ?_ (by assumption) ?_
          rotate_left
          · intro w hSw
            (try dsimp only at hSw)
            go_simp
            try with_reducible rfl
          try simp only [Act.put, List.setIfInBounds_toArray, List.set_cons_zero, List.set_cons_succ]
          refine wpAnyH_done (by kernel_rfl) ?_ _
          go_wp2_with fail
          go_meet
          exact ⟨w1.heap.size, A1, m1, cc1, M1, f1, rfl, rfl, Lib.hid (heap_alloc_new w1 _), by omega, Lib.hid (blk_alloc HC1.out _), Lib.hid (blk_alloc H21.out _), HM1, hc1, hl2, Lib.hid ((HR1.out.alloc (Nat.le_refl _) _).more (by simp)), HOK1, HS1, Lib.hid ((HRD1.out.alloc (Nat.le_refl _) _).more (by simp)), Lib.hid ((HRC1.out.alloc (Nat.le_refl _) _).more (by simp)), HW1.out.alloc (Nat.le_trans hS (by omega)) _⟩
        · skip
          go_simp
          skip
          refine hK.out _ _ (by (try dsimp only); exact ⟨cell_al a0 _, cell_al c0 _, cell_al c1 _⟩) (fun hHeld => ?_)
          clear hK K
          try simp only [Act.put, List.setIfInBounds_toArray, List.set_cons_zero, List.set_cons_succ]
          refine held_call (i := 11) (by kernel_rfl) rfl (fun K hK => ?_)
          go_simp
          refine (put_own AC nc cc M wr.heap.size _ i s ((HRC.out.alloc (Nat.le_refl _) _).drew) HNC.out HOK.out hi0 (by simp) (by omega) hcc hsz).mono ?_
          rintro e w1 ⟨A1, m1, cc1, M1, f1, rfl, hm1, hc1, hr1, hok1, hs1, hl1, hb1⟩
          have HM1 := Lib.hid hm1
          have HR1 := Lib.hid hr1
          have HOK1 := Lib.hid hok1
          have HS1 := Lib.hid hs1
          have hl2 : m1 ≤ k + 1 := (by have := HNC.out; omega)
          have HW1 := Lib.hid ((HBL.out.alloc hS _).drew.trans (hb1.mono (by simp; omega)))
          have HC1 := Lib.hid (blk_keep2 hb1 (blk_alloc HC.out _))
          have H21 := Lib.hid (blk_keep2 hb1 (blk_alloc H2.out _))
          have HRD1 := Lib.hid (((HRD.out.alloc (Nat.le_refl _) _).drew.below (hb1.mono (by simp))).more (Nat.le_trans (by simp) hb1.size))
          have HRC1 := Lib.hid (((HRC.out.alloc (Nat.le_refl _) _).drew.below (hb1.mono (by simp))).more (Nat.le_trans (by simp) hb1.size))
          have HX := Lib.hid (blk_keep2 hb1 (heap_alloc_new wr (.cells #[.slice none 0 0] 27)))
          obtain ⟨d0, d1⟩ := blk_cell1 HX.out
          have hz1 : wr.heap.size ≤ w1.heap.size := Nat.le_trans (by simp) hb1.size
          clear hm1 hr1 hok1 hs1 hl1 hb1 a0 c0 c1
          have a0 := cell_of_row w1 (w.heap.size + 1) 0 _ _ _ HC1.out
          obtain ⟨c0, c1⟩ := ((HR.out.more hB).below HW1.out).itm HN.out k hlt'
          rw [← HE.out] at c0 c1
          refine hK.out _ _ (by (try dsimp only); exact ⟨a0, c0, c1⟩) (fun hHeld => ?_)
          clear hK K
          try simp only [Act.put, List.setIfInBounds_toArray, List.set_cons_zero, List.set_cons_succ]
          refine held_take (i := 12) (v := ?_) rfl (by kernel_rfl) (by kernel_rfl) (by kernel_rfl) (fun _ _ _ h => h) (by rfl) ?_ (by assumption) ?_
          rotate_left
          · intro w hSw
            (try dsimp only at hSw)
            go_simp
            try with_reducible rfl
          try simp only [Act.put, List.setIfInBounds_toArray, List.set_cons_zero, List.set_cons_succ]
          refine held_take (i := 13) (v := ?_) rfl (by kernel_rfl) (by kernel_rfl) (by kernel_rfl) (fun _ _ _ h => h) (by rfl) ?_ (by assumption) ?_
          rotate_left
          · intro w hSw
            (try dsimp only at hSw)
            go_simp
            try with_reducible rfl
          try simp only [Act.put, List.setIfInBounds_toArray, List.set_cons_zero, List.set_cons_succ]
          refine held_take (i := 14) (v := ?_) rfl (by kernel_rfl) (by kernel_rfl) (by kernel_rfl) (fun _ _ _ h => h) (by rfl) ?_ (by assumption) ?_
          rotate_left
          · intro w hSw
            (try dsimp only at hSw)
            go_simp
            try with_reducible rfl
          try simp only [Act.put, List.setIfInBounds_toArray, List.set_cons_zero, List.set_cons_succ]
          refine held_call (i := 16) (by kernel_rfl) rfl (fun K hK => ?_)
          go_simp
          skip
          refine hK.out _ _ (by (try dsimp only); exact ⟨cell_of_row _ _ 0 _ _ _ (set_far HC1.out (by omega)), (((Below.refl wr.heap.size w1).setCell (p := ⟨wr.heap.size, 0, none⟩) (Nat.le_refl _) _).cell (show _ < _ from hgl)).trans c0, (((Below.refl wr.heap.size w1).setCell (p := ⟨wr.heap.size, 0, none⟩) (Nat.le_refl _) _).cell (show _ < _ from hgl)).trans c1⟩) (fun hHeld => ?_)
          clear hK K
          try simp only [Act.put, List.setIfInBounds_toArray, List.set_cons_zero, List.set_cons_succ]
          refine held_take (i := 17) (v := ?_) rfl (by kernel_rfl) (by kernel_rfl) (by kernel_rfl) (fun _ _ _ h => h) (by rfl) ?_ (by assumption) ?_
          rotate_left
          · intro w hSw
            (try dsimp only at hSw)
            go_simp
            try with_reducible rfl
          try simp only [Act.put, List.setIfInBounds_toArray, List.set_cons_zero, List.set_cons_succ]
          refine wpAnyH_done (by kernel_rfl) ?_ _
          go_wp2_with fail
          go_meet
          exact ⟨wr.heap.size, A1, m1, cc1, M1, f1, rfl, rfl, Lib.hid (set_blk HX.out), by omega, Lib.hid (set_far HC1.out (by omega)), Lib.hid (set_far H21.out (by omega)), HM1, hc1, hl2, Lib.hid ((HR1.out.set_other HX.out _).more (by simp)), HOK1, HS1, Lib.hid ((HRD1.out.set_other HX.out _).more (by simp)), Lib.hid ((HRC1.out.set_other HX.out _).more (by simp)), HW1.out.setCell hS _⟩
      case rest =>
        obtain ⟨h, A1, m1, cc1, M1, f1, rfl, rfl, HT7, hh, HC2, H22, HM1, hc1, hl2, HR1, HOK1, HS1, HRD2, HRC2, hb2⟩ := hcut
        have HB2 := Lib.hid hb2
        have hS2 := hb2.size
        obtain ⟨e0, e1⟩ := ((HR.out.more hB).below hb2).itm HN.out k hlt'
        rw [← HE.out] at e0 e1
        have hgl2 : g < wc.heap.size := by omega
        have hsum1 : It.sum M1 ≤ It.sum (L.take (k + 1)) := by have h1 := HS1.out; have h2 := HS.out; have h3 := HST.out; omega
        have hsum0 : It.sum M ≤ It.sum (L.take (k + 1)) := by have h2 := HS.out; have h3 := HST.out; omega
        have HSA := Lib.hid hsum1
        have HSB := Lib.hid hsum0
        clear hb2 hsum1 hsum0
        obtain ⟨b0, _⟩ := blk_cell1 HT7.out
        obtain ⟨b1, b2⟩ := blk_cell1 HC2.out
        by_cases hf : f1 = 0
        · subst hf
          have HC3 := Lib.hid (set_blk (i := 0) (u := .slice A1 m1 cc1) HC2.out)
          have H23 := Lib.hid (set_far (g := w.heap.size + 1) (i := 0) (u := .slice A1 m1 cc1) H22.out (by omega))
          have HW3 := Lib.hid (HB2.out.setCell (p := ⟨w.heap.size + 1, 0, none⟩) (by simp) (.slice A1 m1 cc1))
          have HR3 := Lib.hid (HR1.out.set_other HC2.out (.slice A1 m1 cc1))
          have HRD3 := Lib.hid (HRD2.out.set_other HC2.out (.slice A1 m1 cc1))
          go_wp2_with fail
          go_region_with (first | (go_at_call 15; refine (rput_any AD nd cdd D wc.heap.size _ i s HRD3.out.drew HND.out (by simp) (by omega) hsz).mono ?_; rintro e w2 ⟨A2, m2, cc2, D2, f2, rfl, hm2, hn2, hr2, hb3⟩; have HN2 := Lib.hid hn2; have HR4 := Lib.hid hr2; have HW4 := Lib.hid (HW3.out.drew.trans (hb3.mono (by simp; omega))); have HC4 := Lib.hid (blk_keep2 hb3 HC3.out); have H24 := Lib.hid (blk_keep2 hb3 H23.out); have HRA4 := Lib.hid ((HR3.out.drew.below (hb3.mono (by simp))).more (Nat.le_trans (by simp) hb3.size)); have HRD4 := Lib.hid ((HRD3.out.drew.below (hb3.mono (by simp))).more (Nat.le_trans (by simp) hb3.size)); clear hn2 hr2 hb3 e0 e1 b0 b1 b2))
          all_goals
            by_cases hf2 : f2 = 0
            · subst hf2
              go_wp2_with fail
              exact ⟨⟨k + 1, A1, m1, cc1, M1, A2, m2, cc2, D2, by omega, by go_num, rfl, HC4, H24, HM1, hc1, hl2, HRA4, HOK1, HSA, HN2, by omega, HR4, HW4.out⟩, by simp [intOf]; omega⟩
            · go_wp2_with fail
              exact ⟨⟨k + 1, A1, m1, cc1, M1, AD, nd, cdd, D, by omega, by go_num, rfl, HC4, H24, HM1, hc1, hl2, HRA4, HOK1, HSA, HND, by omega, HRD4, HW4.out⟩, by simp [intOf]; omega⟩
        · have hfb : (f1 == 0) = false := by simpa using hf
          go_wp2_with fail
          go_region_with (first | (go_at_call 15; refine (rput_any AD nd cdd D wc.heap.size _ i s HRD2.out.drew HND.out (Nat.le_refl _) (by omega) hsz).mono ?_; rintro e w2 ⟨A2, m2, cc2, D2, f2, rfl, hm2, hn2, hr2, hb3⟩; have HN2 := Lib.hid hn2; have HR4 := Lib.hid hr2; have HW4 := Lib.hid (HB2.out.drew.trans (hb3.mono (by simp; omega))); have HC4 := Lib.hid (blk_keep2 hb3 HC2.out); have H24 := Lib.hid (blk_keep2 hb3 H22.out); have HRA4 := Lib.hid ((HRC2.out.drew.below hb3).more hb3.size); have HRD4 := Lib.hid ((HRD2.out.drew.below hb3).more hb3.size); clear hn2 hr2 hb3 e0 e1 b0 b1 b2))
          all_goals
            by_cases hf2 : f2 = 0
            · subst hf2
              go_wp2_with fail
              exact ⟨⟨k + 1, AC, nc, cc, M, A2, m2, cc2, D2, by omega, by go_num, rfl, HC4, H24, HNC, hcc, by omega, HRA4, HOK, HSB, HN2, by omega, HR4, HW4.out⟩, by simp [intOf]; omega⟩
            · have hfb2 : (f2 == 0) = false := by simpa using hf2
              go_wp2_with fail
              exact ⟨⟨k + 1, AC, nc, cc, M, AD, nd, cdd, D, by omega, by go_num, rfl, HC4, H24, HNC, hcc, by omega, HRA4, HOK, HSB, HND, by omega, HRD4, HW4.out⟩, by simp [intOf]; omega⟩
    · have hkn : k = n := by omega
      have hfin : It.sum M ≤ 3000 := by have h1 := HS.out; have h2 := It.sum_mono L k; have h3 := HB.out; omega
      obtain ⟨b1, b2⟩ := blk_cell1 HC.out
      obtain ⟨b3, b4⟩ := blk_cell1 H2.out
      have HW5 := Lib.hid (hbl.setCell (p := ⟨w.heap.size, 0, none⟩) (by simp) (.slice AC nc cc))
      have HR5 := Lib.hid (HRC.out.set_other H2.out (.slice AC nc cc))
      clear hbl
      go_wp2_with fail
      exact bodyPost_ret (v := .tuple #[.agg #[.slice AC nc cc], .slice AD nd cdd]) (by simp [results, Tryz.results6, go_sem, b3]) rfl ⟨AC, nc, cc, M, _, rfl, HNC.out, hcc, HR5.out.more (by simp), HOK.out, hfin, by omega, HW5.out⟩
end Go.Proofs.YtlfahmdndlmhpaaGreatDoor
