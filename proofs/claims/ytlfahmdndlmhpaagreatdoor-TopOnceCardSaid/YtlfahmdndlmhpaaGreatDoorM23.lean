/- Entries: how wide, where the end, whether one may be. Whether entries may be a row: the program's and the document's. -/
import Derived.Test.YtlfahmdndlmhpaaGreatDoorM04
import Derived.Deep.RegionHeld3
import Derived.Deep.DrawnRows
import Derived.Test.YtlfahmdndlmhpaaGreatDoorM08
namespace Go.Proofs.YtlfahmdndlmhpaaGreatDoor
open Go.RowKit

theorem held_then {w w1 w2 : World} (k : Below w1.heap.size w1 w2) (h : Below w.heap.size w w1) : Below w.heap.size w w2 := bthen h k
theorem wide_any (i o l r : Int) (h : 0 ≤ r) (h' : r < 4294967296) (w : World) :
    Calls Tryz.prog 65 #[.agg #[.int .u64 i, .int .u64 o, .int .u32 l, .int .u32 r]] w fun e w' => e = .returned (.int .u64 (En.wd r)) ∧ Below w.heap.size w w' := by
  go_enter Tryz.func65, Tryz.ntmps65
  go_wp2_with fail
  all_goals
    go_ret
    exact ⟨ret1 (by unfold En.wd; split <;> omega), blk_new _ _⟩
theorem end_any (i o l r : Int) (h : En.fit i o l r) (c : o ≤ 1099511627776) (w : World) :
    Calls Tryz.prog 99 #[.agg #[.int .u64 i, .int .u64 o, .int .u32 l, .int .u32 r]] w fun e w' => e = .returned (.int .u64 (o + l)) ∧ Below w.heap.size w w' := by
  obtain ⟨⟨i0, i1⟩, ⟨o0, o1⟩, ⟨l0, l1⟩, r0, r1⟩ := h
  go_enter Tryz.func99, Tryz.ntmps99
  go_wp2_with fail
  go_ret
  exact ⟨rfl, blk_new _ _⟩
set_option maxHeartbeats 2000000 in
theorem check_any (i o l r : Int) (h : En.fit i o l r) (w : World) :
    Calls Tryz.prog 64 #[.agg #[.int .u64 i, .int .u64 o, .int .u32 l, .int .u32 r]] w fun e w' => e = .returned (.int .i64 (En.ck i o l r)) ∧ Below w.heap.size w w' := by
  have HF := Lib.hid h
  obtain ⟨⟨i0, i1⟩, ⟨o0, o1⟩, ⟨l0, l1⟩, r0, r1⟩ := h
  obtain ⟨d0, d1⟩ := En.wd_bd r0
  have d1 := d1 r1
  unfold En.ck
  by_cases c : l = 0
  · rw [if_pos c]
    clear HF
    go_enter Tryz.func64, Tryz.ntmps64
    go_wp2_with fail
    go_ret
    exact ⟨rfl, blk_new _ _⟩
  · rw [if_neg c]
    by_cases c1 : 6004799503160661 < i + En.wd r
    · rw [if_pos c1]
      have cw := u64w (a := 6004799503160661 - En.wd r) (by omega) (by omega)
      have c1' : decide (6004799503160661 - En.wd r < i) = true := decide_eq_true (by omega)
      go_enter Tryz.func64, Tryz.ntmps64
      go_wp2_with fail
      have HA := Lib.hid (heap_alloc_new w (.cells #[.int .u64 i, .int .u64 o, .int .u32 l, .int .u32 r] 43 (0, 0)))
      have hw := blk_new w (.cells #[.int .u64 i, .int .u64 o, .int .u32 l, .int .u32 r] 43 (0, 0))
      obtain ⟨a0, a1, a2, a3⟩ := blk_cells4 HA.out
      go_region_held3 (fun w' => w'.cell? ⟨w.heap.size, 0, none⟩ = some (.int .u64 i) ∧ w'.cell? ⟨w.heap.size, 1, none⟩ = some (.int .u64 o) ∧ w'.cell? ⟨w.heap.size, 2, none⟩ = some (.int .u32 l) ∧ w'.cell? ⟨w.heap.size, 3, none⟩ = some (.int .u32 r)) (exact ⟨a0, a1, a2, a3⟩) (first | (go_at_call 65; refine (wide_any _ _ _ _ r0 r1 _).mono ?_; rintro e w1 ⟨rfl, hb⟩; have hw := held_then hb (by first | exact hw | exact Below.drew hw | exact bdraws hw _); have HA := Lib.hid (blk_keep2 hb HA.out); obtain ⟨a0, a1, a2, a3⟩ := blk_cells4 HA.out))
      all_goals
        clear a0 a1 a2 a3
        obtain ⟨a0, a1, a2, a3⟩ := blk_cells4 HA.out
        go_wp2_with fail
        go_ret
        first | exact ⟨rfl, hw⟩ | exact ⟨rfl, bdraws hw _⟩
    · rw [if_neg c1]
      by_cases c2 : 1099511627776 < o + l
      · rw [if_pos c2]
        by_cases c3 : 1099511627776 < o
        · skip
          have cw := u64w (a := 6004799503160661 - En.wd r) (by omega) (by omega)
          have c1' : decide (6004799503160661 - En.wd r < i) = false := decide_eq_false (by omega)
          have c2' : decide (1099511627776 < o) = true := decide_eq_true (by omega)
          go_enter Tryz.func64, Tryz.ntmps64
          go_wp2_with fail
          have HA := Lib.hid (heap_alloc_new w (.cells #[.int .u64 i, .int .u64 o, .int .u32 l, .int .u32 r] 43 (0, 0)))
          have hw := blk_new w (.cells #[.int .u64 i, .int .u64 o, .int .u32 l, .int .u32 r] 43 (0, 0))
          obtain ⟨a0, a1, a2, a3⟩ := blk_cells4 HA.out
          go_region_held3 (fun w' => w'.cell? ⟨w.heap.size, 0, none⟩ = some (.int .u64 i) ∧ w'.cell? ⟨w.heap.size, 1, none⟩ = some (.int .u64 o) ∧ w'.cell? ⟨w.heap.size, 2, none⟩ = some (.int .u32 l) ∧ w'.cell? ⟨w.heap.size, 3, none⟩ = some (.int .u32 r)) (exact ⟨a0, a1, a2, a3⟩) (first | (go_at_call 65; refine (wide_any _ _ _ _ r0 r1 _).mono ?_; rintro e w1 ⟨rfl, hb⟩; have hw := held_then hb (by first | exact hw | exact Below.drew hw | exact bdraws hw _); have HA := Lib.hid (blk_keep2 hb HA.out); obtain ⟨a0, a1, a2, a3⟩ := blk_cells4 HA.out))
          all_goals
            clear a0 a1 a2 a3
            obtain ⟨a0, a1, a2, a3⟩ := blk_cells4 HA.out
            go_wp2_with fail
            go_ret
            first | exact ⟨rfl, hw⟩ | exact ⟨rfl, bdraws hw _⟩
        · skip
          have cw := u64w (a := 6004799503160661 - En.wd r) (by omega) (by omega)
          have c1' : decide (6004799503160661 - En.wd r < i) = false := decide_eq_false (by omega)
          have c2' : decide (1099511627776 < o) = false := decide_eq_false (by omega)
          have c3' : decide (1099511627776 < o + l) = true := decide_eq_true (by omega)
          go_enter Tryz.func64, Tryz.ntmps64
          go_wp2_with fail
          have HA := Lib.hid (heap_alloc_new w (.cells #[.int .u64 i, .int .u64 o, .int .u32 l, .int .u32 r] 43 (0, 0)))
          have hw := blk_new w (.cells #[.int .u64 i, .int .u64 o, .int .u32 l, .int .u32 r] 43 (0, 0))
          obtain ⟨a0, a1, a2, a3⟩ := blk_cells4 HA.out
          go_region_held3 (fun w' => w'.cell? ⟨w.heap.size, 0, none⟩ = some (.int .u64 i) ∧ w'.cell? ⟨w.heap.size, 1, none⟩ = some (.int .u64 o) ∧ w'.cell? ⟨w.heap.size, 2, none⟩ = some (.int .u32 l) ∧ w'.cell? ⟨w.heap.size, 3, none⟩ = some (.int .u32 r)) (exact ⟨a0, a1, a2, a3⟩) (first | (go_at_call 65; refine (wide_any _ _ _ _ r0 r1 _).mono ?_; rintro e w1 ⟨rfl, hb⟩; have hw := held_then hb (by first | exact hw | exact Below.drew hw | exact bdraws hw _); have HA := Lib.hid (blk_keep2 hb HA.out); obtain ⟨a0, a1, a2, a3⟩ := blk_cells4 HA.out))
          all_goals
            clear a0 a1 a2 a3
            obtain ⟨a0, a1, a2, a3⟩ := blk_cells4 HA.out
            go_wp2_with fail
            refine (end_any _ _ _ _ HF.out (by omega) _).mono ?_; rintro e w2 ⟨rfl, hb⟩
            have hw := held_then hb (by first | exact hw | exact Below.drew hw | exact bdraws hw _)
            clear a0 a1 a2 a3
            go_wp2_with fail
            go_ret
            first | exact ⟨rfl, hw⟩ | exact ⟨rfl, bdraws hw _⟩
      · rw [if_neg c2]
        have cw := u64w (a := 6004799503160661 - En.wd r) (by omega) (by omega)
        have c1' : decide (6004799503160661 - En.wd r < i) = false := decide_eq_false (by omega)
        have c2' : decide (1099511627776 < o) = false := decide_eq_false (by omega)
        have c3' : decide (1099511627776 < o + l) = false := decide_eq_false (by omega)
        go_enter Tryz.func64, Tryz.ntmps64
        go_wp2_with fail
        have HA := Lib.hid (heap_alloc_new w (.cells #[.int .u64 i, .int .u64 o, .int .u32 l, .int .u32 r] 43 (0, 0)))
        have hw := blk_new w (.cells #[.int .u64 i, .int .u64 o, .int .u32 l, .int .u32 r] 43 (0, 0))
        obtain ⟨a0, a1, a2, a3⟩ := blk_cells4 HA.out
        go_region_held3 (fun w' => w'.cell? ⟨w.heap.size, 0, none⟩ = some (.int .u64 i) ∧ w'.cell? ⟨w.heap.size, 1, none⟩ = some (.int .u64 o) ∧ w'.cell? ⟨w.heap.size, 2, none⟩ = some (.int .u32 l) ∧ w'.cell? ⟨w.heap.size, 3, none⟩ = some (.int .u32 r)) (exact ⟨a0, a1, a2, a3⟩) (first | (go_at_call 65; refine (wide_any _ _ _ _ r0 r1 _).mono ?_; rintro e w1 ⟨rfl, hb⟩; have hw := held_then hb (by first | exact hw | exact Below.drew hw | exact bdraws hw _); have HA := Lib.hid (blk_keep2 hb HA.out); obtain ⟨a0, a1, a2, a3⟩ := blk_cells4 HA.out))
        all_goals
          clear a0 a1 a2 a3
          obtain ⟨a0, a1, a2, a3⟩ := blk_cells4 HA.out
          go_wp2_with fail
          refine (end_any _ _ _ _ HF.out (by omega) _).mono ?_; rintro e w2 ⟨rfl, hb⟩
          have hw := held_then hb (by first | exact hw | exact Below.drew hw | exact bdraws hw _)
          clear a0 a1 a2 a3
          go_wp2_with fail
          go_ret
          first | exact ⟨rfl, hw⟩ | exact ⟨rfl, bdraws hw _⟩
theorem may_any (i o l r : Int) (h : En.fit i o l r) (w : World) :
    Calls Tryz.prog 27 #[.agg #[.int .u64 i, .int .u64 o, .int .u32 l, .int .u32 r]] w fun e w' => e = .returned (.bool (En.ck i o l r == 0)) ∧ Below w.heap.size w w' := by
  go_enter Tryz.func27, Tryz.ntmps27
  go_wp2_with fail
  refine (check_any _ _ _ _ h _).mono ?_; rintro e w1 ⟨rfl, hb⟩
  have hw := held_then hb (blk_new w _)
  go_wp2_with fail
  go_ret
  exact ⟨rfl, hw⟩
theorem En.ck_in {i o l r : Int} (h : En.ck i o l r = 0) : i + En.wd r ≤ 6004799503160661 := by
  unfold En.ck at h
  split at h
  · omega
  · split at h <;> omega
theorem last_any (i o l r : Int) (h : En.fit i o l r) (w : World) :
    Calls Tryz.prog 28 #[.agg #[.int .u64 i, .int .u64 o, .int .u32 l, .int .u32 r]] w fun e w' => e = .returned (.int .u64 (En.la i o l r)) ∧ Below w.heap.size w w' := by
  have HF := Lib.hid h
  obtain ⟨⟨i0, i1⟩, ⟨o0, o1⟩, ⟨l0, l1⟩, r0, r1⟩ := h
  obtain ⟨d0, d1⟩ := En.wd_bd r0
  have d1 := d1 r1
  unfold En.la
  by_cases c : En.ck i o l r = 0
  · rw [if_pos c]
    have hi : i + En.wd r ≤ 6004799503160661 := En.ck_in c
    have cc : (En.ck i o l r == 0) = true := by rw [c]; rfl
    have cs := u64w (a := i + En.wd r) (by omega) (by omega)
    have ct := u64w (a := i + En.wd r - 1) (by omega) (by omega)
    clear c
    go_enter Tryz.func28, Tryz.ntmps28
    go_wp2_with fail
    refine (may_any _ _ _ _ HF.out _).mono ?_; rintro e w0 ⟨rfl, hb⟩
    have HA := Lib.hid (blk_one hb).1
    have hw := (blk_one hb).2.2
    obtain ⟨a0, a1, a2, a3⟩ := blk_cells4 HA.out
    clear hb
    go_wp2_with fail
    go_region_held3 (fun w' => w'.cell? ⟨w.heap.size, 0, none⟩ = some (.int .u64 i) ∧ w'.cell? ⟨w.heap.size, 1, none⟩ = some (.int .u64 o) ∧ w'.cell? ⟨w.heap.size, 2, none⟩ = some (.int .u32 l) ∧ w'.cell? ⟨w.heap.size, 3, none⟩ = some (.int .u32 r)) (exact ⟨a0, a1, a2, a3⟩) (first | (go_at_call 65; refine (wide_any _ _ _ _ r0 r1 _).mono ?_; rintro e w1 ⟨rfl, hb⟩; have hw := held_then hb (by first | exact hw | exact Below.drew hw | exact bdraws hw _); have HA := Lib.hid (blk_keep2 hb HA.out); obtain ⟨a0, a1, a2, a3⟩ := blk_cells4 HA.out))
    all_goals
      clear a0 a1 a2 a3
      go_wp2_with fail
      go_ret
      first | exact ⟨rfl, hw⟩ | exact ⟨rfl, bdraws hw _⟩
  · rw [if_neg c]
    have cc : (En.ck i o l r == 0) = false := beq_eq_false_iff_ne.2 c
    clear c
    go_enter Tryz.func28, Tryz.ntmps28
    go_wp2_with fail
    refine (may_any _ _ _ _ HF.out _).mono ?_; rintro e w0 ⟨rfl, hb⟩
    have HA := Lib.hid (blk_one hb).1
    have hw := (blk_one hb).2.2
    obtain ⟨a0, a1, a2, a3⟩ := blk_cells4 HA.out
    clear hb
    clear a0 a1 a2 a3
    go_wp2_with fail
    go_ret
    first | exact ⟨rfl, hw⟩ | exact ⟨rfl, bdraws hw _⟩
theorem has_any (i o l r id : Int) (h : En.fit i o l r) (w : World) :
    Calls Tryz.prog 10 #[.agg #[.int .u64 i, .int .u64 o, .int .u32 l, .int .u32 r], .int .u64 id] w fun e w' => e = .returned (.bool (En.hs i o l r id)) ∧ Below w.heap.size w w' := by
  have HF := Lib.hid h
  obtain ⟨⟨i0, i1⟩, ⟨o0, o1⟩, ⟨l0, l1⟩, r0, r1⟩ := h
  obtain ⟨d0, d1⟩ := En.wd_bd r0
  have d1 := d1 r1
  unfold En.hs
  by_cases c : En.ck i o l r = 0
  · have hc := Lib.hid c
    have cc : (En.ck i o l r == 0) = true := by rw [c]; rfl
    clear c
    by_cases c2 : 0 < r
    · have k2 : decide (0 < r) = true := decide_eq_true c2
      by_cases c3 : i ≤ id
      · have k3 : decide (i ≤ id) = true := decide_eq_true c3
        go_enter Tryz.func10, Tryz.ntmps10
        go_wp2_with fail
        refine (may_any _ _ _ _ HF.out _).mono ?_; rintro e w0 ⟨rfl, hb⟩
        have HA := Lib.hid (blk_one hb).1
        have hw := (blk_one hb).2.2
        obtain ⟨a0, a1, a2, a3⟩ := blk_cells4 HA.out
        clear hb
        go_wp2_with fail
        refine (last_any _ _ _ _ HF.out _).mono ?_; rintro e w2 ⟨rfl, hb⟩
        have hw := held_then hb (by first | exact hw | exact Below.drew hw | exact bdraws hw _)
        clear a0 a1 a2 a3
        go_wp2_with fail
        go_ret
        exact ⟨retb (by simp [hc.out, c2, c3]), hw⟩
      · have k3 : decide (i ≤ id) = false := decide_eq_false c3
        go_enter Tryz.func10, Tryz.ntmps10
        go_wp2_with fail
        refine (may_any _ _ _ _ HF.out _).mono ?_; rintro e w0 ⟨rfl, hb⟩
        have HA := Lib.hid (blk_one hb).1
        have hw := (blk_one hb).2.2
        obtain ⟨a0, a1, a2, a3⟩ := blk_cells4 HA.out
        clear hb
        go_wp2_with fail
        go_ret
        exact ⟨retb (by simp; omega), hw⟩
    · have k2 : decide (0 < r) = false := decide_eq_false c2
      go_enter Tryz.func10, Tryz.ntmps10
      go_wp2_with fail
      refine (may_any _ _ _ _ HF.out _).mono ?_; rintro e w0 ⟨rfl, hb⟩
      have HA := Lib.hid (blk_one hb).1
      have hw := (blk_one hb).2.2
      obtain ⟨a0, a1, a2, a3⟩ := blk_cells4 HA.out
      clear hb
      go_wp2_with fail
      go_ret
      exact ⟨retb (by simp; omega), hw⟩
  · rw [decide_eq_false (fun q => c q.1)]
    have cc : (En.ck i o l r == 0) = false := beq_eq_false_iff_ne.2 c
    clear c
    go_enter Tryz.func10, Tryz.ntmps10
    go_wp2_with fail
    refine (may_any _ _ _ _ HF.out _).mono ?_; rintro e w0 ⟨rfl, hb⟩
    have HA := Lib.hid (blk_one hb).1
    have hw := (blk_one hb).2.2
    obtain ⟨a0, a1, a2, a3⟩ := blk_cells4 HA.out
    clear hb
    go_wp2_with fail
    go_ret
    exact ⟨rfl, hw⟩
end Go.Proofs.YtlfahmdndlmhpaaGreatDoor
namespace Go.Proofs.YtlfahmdndlmhpaaGreatDoor
open Go.RowKit

def En.rowFrom (f : Int) : List Ent → Int
  | [] => 0
  | e :: L => if En.c e = 0 then (if e.1 < f then 10 else En.rowFrom (En.l e + 1) L) else En.c e
def En.row (L : List Ent) : Int := if 4096 < L.length then 21 else En.rowFrom 0 L

theorem En.l_in {e : Ent} (h : En.good e) (c : En.c e = 0) : 0 ≤ En.l e ∧ En.l e < 6004799503160661 := by
  obtain ⟨⟨i0, i1⟩, _, _, r0, r1⟩ := h
  have h1 := En.ck_in c
  have h2 := (En.wd_bd r0).1
  unfold En.l En.la
  unfold En.c at c
  rw [if_pos c]
  omega
theorem En.rowFrom_step {f : Int} {L : List Ent} {k : Nat} (hk : k < L.length) : En.rowFrom f (L.drop k) = if En.c (L[k]'hk) = 0 then (if (L[k]'hk).1 < f then 10 else En.rowFrom (En.l (L[k]'hk) + 1) (L.drop (k + 1))) else En.c (L[k]'hk) := by
  rw [List.drop_eq_getElem_cons hk]
  rfl

set_option maxHeartbeats 1000000 in
theorem row_any (A : Option Addr) (n cap : Nat) (L : List Ent) (B : Nat) (w : World) (hr : Reads w B 4 A n (ecells L)) (hn : n = L.length) (hf : En.fits L) (hB : B ≤ w.heap.size) (hm : n ≤ 140737488355328) :
    Calls Tryz.prog 44 #[.slice A n cap] w fun e w' => e = .returned (.int .i64 (En.row L)) ∧ Below w.heap.size w w' := by
  by_cases c : 4096 < n
  · have e : En.row L = 21 := by unfold En.row; rw [if_pos (by omega)]
    rw [e]
    clear e hr hn
    go_enter Tryz.func44, Tryz.ntmps44
    go_wp2_with fail
    go_ret
    exact ⟨rfl, Below.refl _ _⟩
  · have e : En.row L = En.rowFrom 0 L := by unfold En.row; rw [if_neg (by omega)]
    rw [e]
    rcases Nat.eq_zero_or_pos n with h0 | h0
    · have hL : L = [] := List.eq_nil_of_length_eq_zero (by omega)
      subst hL
      subst h0
      clear e hr hn hf
      go_enter Tryz.func44, Tryz.ntmps44
      go_wp2_with fail
      go_loopw [12] (fun ci wr => ci = .int .i64 0 ∧ wr = w) (fun ci _ => 4 - (intOf ci).toNat)
      case atStart => exact ⟨rfl, rfl⟩
      case round =>
        obtain ⟨rfl, rfl⟩ := hrel
        go_wp2_with fail
        go_ret
        exact ⟨rfl, Below.refl _ _⟩
    · obtain ⟨g, off, rfl, hgB⟩ := hr.plain h0 hn
      have HR := Lib.hid hr
      have HN := Lib.hid hn
      have HF := Lib.hid hf
      clear e hr hn hf
      go_enter Tryz.func44, Tryz.ntmps44
      go_wp2_with fail
      go_loopw [3, 12] (fun cf ci wr => ∃ (k : Nat) (f : Int), k ≤ n ∧ ci = .int .i64 k ∧ cf = .int .u64 f ∧ (0 ≤ f ∧ f ≤ 6004799503160661) ∧ Hid (En.rowFrom f (L.drop k) = En.rowFrom 0 L) ∧ Below w.heap.size w wr) (fun _ ci _ => n - (intOf ci).toNat)
      case atStart => exact ⟨0, 0, by omega, rfl, rfl, by omega, Lib.hid (by rfl), Below.refl _ _⟩
      case round =>
        obtain ⟨k, f, hk, rfl, rfl, ⟨hf0, hf1⟩, hI, hbl⟩ := hrel
        by_cases hlt : k < n
        · have hlt' : k < L.length := by rw [← HN.out]; exact hlt
          obtain ⟨c0, c1, c2, c3⟩ := ((HR.out.more hB).below hbl).ent HN.out k hlt'
          have hg := HF.out _ (List.getElem_mem hlt')
          have hs := hI.out
          rw [En.rowFrom_step hlt'] at hs
          have hl := fun q => En.l_in hg q
          unfold En.l En.c at *
          obtain ⟨⟨i, o, l, r⟩, he⟩ : ∃ e, e = L[k]'hlt' := ⟨_, rfl⟩
          rw [← he] at c0 c1 c2 c3 hg hs hl
          have hg' : En.fit i o l r := hg
          have hl' : En.ck i o l r = 0 → 0 ≤ En.la i o l r ∧ En.la i o l r < 6004799503160661 := hl
          have HG := Lib.hid hg'
          have HS := Lib.hid hs
          have HL := Lib.hid hl'
          clear he hg hg' hs hl hl' hI
          rcases Decidable.em (En.ck i o l r = 0) with q | q
          · obtain ⟨hl0, hl1⟩ := HL.out q
            have hq : (En.ck i o l r != 0) = false := by rw [q]; rfl
            have cw := u64w (a := En.la i o l r + 1) (by omega) (by omega)
            have HQ := Lib.hid q
            clear q
            by_cases q2 : i < f
            · have hz : En.rowFrom 0 L = 10 := by rw [← HS.out, if_pos HQ.out, if_pos q2]
              have HZ := Lib.hid hz
              clear hz
              go_wp2_with fail
              refine (check_any _ _ _ _ HG.out _).mono ?_; rintro e w1 ⟨rfl, hb⟩
              have hA := Lib.hid (blk_one hb).1
              have hw := bthen2 (blk_one hb).2.2 hbl
              obtain ⟨a0, a1, a2, a3⟩ := blk_cells4 hA.out
              clear hb
              go_wp2_with fail
              go_ret
              exact ⟨ret1 HZ.out.symm, hw⟩
            · have hz : En.rowFrom (En.la i o l r + 1) (L.drop (k + 1)) = En.rowFrom 0 L := by rw [← HS.out, if_pos HQ.out, if_neg q2]
              have HZ := Lib.hid hz
              clear hz
              go_wp2_with fail
              refine (check_any _ _ _ _ HG.out _).mono ?_; rintro e w1 ⟨rfl, hb⟩
              have hA := Lib.hid (blk_one hb).1
              have hw := bthen2 (blk_one hb).2.2 hbl
              obtain ⟨a0, a1, a2, a3⟩ := blk_cells4 hA.out
              clear hb
              go_wp2_with fail
              refine (last_any _ _ _ _ HG.out _).mono ?_; rintro e w2 ⟨rfl, hb⟩
              have hw := bthen2 hb hw
              clear a0 a1 a2 a3
              go_wp2_with fail
              exact ⟨⟨k + 1, _, by omega, by go_num, rfl, by omega, HZ, hw⟩, by simp [intOf]; omega⟩
          · have hz : En.rowFrom 0 L = En.ck i o l r := by rw [← HS.out, if_neg q]
            have hq : (En.ck i o l r != 0) = true := by rw [bne_iff_ne]; exact q
            have HZ := Lib.hid hz
            clear hz q
            go_wp2_with fail
            refine (check_any _ _ _ _ HG.out _).mono ?_; rintro e w1 ⟨rfl, hb⟩
            have hw := bthen2 (blk_one hb).2.2 hbl
            go_wp2_with fail
            go_ret
            exact ⟨ret1 HZ.out.symm, hw⟩
        · have hkn : k = n := by omega
          subst hkn
          have hz : En.rowFrom 0 L = 0 := by rw [← hI.out, List.drop_of_length_le (by rw [← HN.out]; omega)]; rfl
          have HZ := Lib.hid hz
          clear hz
          go_wp2_with fail
          go_ret
          exact ⟨ret1 HZ.out.symm, hbl⟩

end Go.Proofs.YtlfahmdndlmhpaaGreatDoor
