/- The walks of Count and End, the program's and the document's. -/
import Derived.Test.YtppciejcobmikaaEntBase
import Derived.Test.YtppciejcobmikaaEntSpec
import Derived.IntWalk
namespace Go.Proofs.Ytppciejcobmikaa
open Go.RowKit

theorem bnew {w w1 : World} {o : Obj} (h : Below (w.alloc o).heap.size (w.alloc o) w1) : Below w.heap.size w w1 := (blk_one h).2.2
set_option maxHeartbeats 1000000 in
theorem count_any (A : Option Addr) (n cap : Nat) (L : List Ent) (B : Nat) (w : World) (hr : Reads w B 4 A n (ecells L)) (hn : n = L.length) (hf : En.fits L) (hB : B ≤ w.heap.size) (hm : n ≤ 65536) :
    Calls Try.prog 26 #[.slice A n cap] w fun e w' => e = .returned (.int .u64 (En.cnt L)) ∧ Below w.heap.size w w' := by
  rcases Nat.eq_zero_or_pos n with h0 | h0
  · have hL : L = [] := List.eq_nil_of_length_eq_zero (by omega)
    subst hL
    subst h0
    clear hr hn hf
    go_enter Try.func26, Try.ntmps26
    go_wp2_with fail
    go_loopw [3, 8] (fun cf ci wr => cf = .int .u64 0 ∧ ci = .int .i64 0 ∧ wr = w) (fun cf ci _ => 4 - (intOf ci).toNat)
    case atStart => exact ⟨rfl, rfl, rfl⟩
    case round =>
      obtain ⟨rfl, rfl, rfl⟩ := hrel
      go_wp2_with fail
      go_ret
      exact ⟨rfl, Below.refl _ _⟩
  · obtain ⟨g, off, rfl, hgB⟩ := hr.plain h0 hn
    have HR := Lib.hid hr
    have HN := Lib.hid hn
    have HF := Lib.hid hf
    clear hr hn hf
    go_enter Try.func26, Try.ntmps26
    go_wp2_with fail
    go_loopw [3, 8] (fun cf ci wr => ∃ (k : Nat) (S : Int), k ≤ n ∧ ci = .int .i64 k ∧ cf = .int .u64 S ∧ (0 ≤ S ∧ S ≤ k * 4294967295) ∧ Hid (S = En.cnt (L.take k)) ∧ Below w.heap.size w wr) (fun _ ci _ => n - (intOf ci).toNat)
    case atStart => exact ⟨0, 0, by omega, rfl, rfl, by omega, Lib.hid (by rfl), Below.refl _ _⟩
    case round =>
      obtain ⟨k, S, hk, rfl, rfl, ⟨hs0, hs1⟩, hS, hbl⟩ := hrel
      by_cases hlt : k < n
      · have hlt' : k < L.length := by rw [← HN.out]; exact hlt
        obtain ⟨c0, c1, c2, c3⟩ := ((HR.out.more hB).below hbl).ent HN.out k hlt'
        have hg := HF.out _ (List.getElem_mem hlt')
        have hs := En.cnt_step L k hlt'
        rw [← hS.out] at hs
        obtain ⟨⟨i, o, l, r⟩, he⟩ : ∃ e, e = L[k]'hlt' := ⟨_, rfl⟩
        rw [← he] at c0 c1 c2 c3 hg hs
        have hg' : En.fit i o l r := hg
        have HG := Lib.hid hg'
        obtain ⟨_, ⟨o0, o1⟩, ⟨l0, l1⟩, r0, r1⟩ := hg'
        clear he hg hS
        by_cases q : En.ck i o l r = 0
        · have hs' : En.cnt (L.take (k + 1)) = S + r := by rw [hs]; exact if_pos q
          have hq : (En.ck i o l r == 0) = true := by rw [q]; rfl
          have hee := En.ck_end q
          have cw := u64w (a := o + l) (by omega) (by omega)
          have HS := Lib.hid hs'
          have HQ := Lib.hid q
          clear hs hs' q
          go_wp2_with fail
          refine (may_any _ _ _ _ HG.out _).mono ?_; rintro e w1 ⟨rfl, hb⟩
          have hA := Lib.hid (blk_one hb).1
          have hw := bthen2 (blk_one hb).2.2 hbl
          obtain ⟨a0, a1, a2, a3⟩ := blk_cells4 hA.out
          clear hb
          go_wp2_with fail
          exact ⟨⟨k + 1, S + r, by omega, by go_num, rfl, by omega, Lib.hid HS.out.symm, hw⟩, by simp [intOf]; omega⟩
        · have hs' : En.cnt (L.take (k + 1)) = S := by rw [hs]; exact if_neg q
          have hq : (En.ck i o l r == 0) = false := by rw [beq_eq_false_iff_ne]; exact q
          have HS := Lib.hid hs'
          clear hs hs' q
          go_wp2_with fail
          refine (may_any _ _ _ _ HG.out _).mono ?_; rintro e w1 ⟨rfl, hb⟩
          have hA := Lib.hid (blk_one hb).1
          have hw := bthen2 (blk_one hb).2.2 hbl
          obtain ⟨a0, a1, a2, a3⟩ := blk_cells4 hA.out
          clear hb
          go_wp2_with fail
          exact ⟨⟨k + 1, S, by omega, by go_num, rfl, by omega, Lib.hid HS.out.symm, hw⟩, by simp [intOf]; omega⟩
      · have hkn : k = n := by omega
        subst hkn
        have hz : S = En.cnt L := by rw [hS.out, List.take_of_length_le (by rw [← HN.out]; omega)]
        have HZ := Lib.hid hz
        clear hz
        go_wp2_with fail
        go_ret
        exact ⟨ret1 HZ.out, hbl⟩
set_option maxHeartbeats 1000000 in
theorem fin_any (A : Option Addr) (n cap : Nat) (L : List Ent) (B : Nat) (w : World) (hr : Reads w B 4 A n (ecells L)) (hn : n = L.length) (hf : En.fits L) (hB : B ≤ w.heap.size) (hm : n ≤ 65536) :
    Calls Try.prog 30 #[.slice A n cap] w fun e w' => e = .returned (.int .u64 (En.fin L)) ∧ Below w.heap.size w w' := by
  rcases Nat.eq_zero_or_pos n with h0 | h0
  · have hL : L = [] := List.eq_nil_of_length_eq_zero (by omega)
    subst hL
    subst h0
    clear hr hn hf
    go_enter Try.func30, Try.ntmps30
    go_wp2_with fail
    go_loopw [3, 8] (fun cf ci wr => cf = .int .u64 0 ∧ ci = .int .i64 0 ∧ wr = w) (fun cf ci _ => 4 - (intOf ci).toNat)
    case atStart => exact ⟨rfl, rfl, rfl⟩
    case round =>
      obtain ⟨rfl, rfl, rfl⟩ := hrel
      go_wp2_with fail
      go_ret
      exact ⟨rfl, Below.refl _ _⟩
  · obtain ⟨g, off, rfl, hgB⟩ := hr.plain h0 hn
    have HR := Lib.hid hr
    have HN := Lib.hid hn
    have HF := Lib.hid hf
    clear hr hn hf
    go_enter Try.func30, Try.ntmps30
    go_wp2_with fail
    go_loopw [3, 8] (fun cf ci wr => ∃ (k : Nat) (S : Int), k ≤ n ∧ ci = .int .i64 k ∧ cf = .int .u64 S ∧ (0 ≤ S ∧ S ≤ 1099511627776) ∧ Hid (S = En.fin (L.take k)) ∧ Below w.heap.size w wr) (fun _ ci _ => n - (intOf ci).toNat)
    case atStart => exact ⟨0, 0, by omega, rfl, rfl, by omega, Lib.hid (by rfl), Below.refl _ _⟩
    case round =>
      obtain ⟨k, S, hk, rfl, rfl, ⟨hs0, hs1⟩, hS, hbl⟩ := hrel
      by_cases hlt : k < n
      · have hlt' : k < L.length := by rw [← HN.out]; exact hlt
        obtain ⟨c0, c1, c2, c3⟩ := ((HR.out.more hB).below hbl).ent HN.out k hlt'
        have hg := HF.out _ (List.getElem_mem hlt')
        have hs := En.fin_step L k hlt'
        rw [← hS.out] at hs
        obtain ⟨⟨i, o, l, r⟩, he⟩ : ∃ e, e = L[k]'hlt' := ⟨_, rfl⟩
        rw [← he] at c0 c1 c2 c3 hg hs
        have hg' : En.fit i o l r := hg
        have HG := Lib.hid hg'
        obtain ⟨_, ⟨o0, o1⟩, ⟨l0, l1⟩, r0, r1⟩ := hg'
        clear he hg hS
        by_cases q : En.ck i o l r = 0
        · have hs' : En.fin (L.take (k + 1)) = (if S < o + l then o + l else S) := by rw [hs]; exact if_pos q
          have hq : (En.ck i o l r == 0) = true := by rw [q]; rfl
          have hee := En.ck_end q
          have cw := u64w (a := o + l) (by omega) (by omega)
          have HS := Lib.hid hs'
          have HQ := Lib.hid q
          clear hs hs' q
          by_cases q2 : S < o + l
          · have HS := Lib.hid (HS.out.trans (if_pos q2))
            go_wp2_with fail
            refine (may_any _ _ _ _ HG.out _).mono ?_; rintro e w1 ⟨rfl, hb⟩
            have hA := Lib.hid (blk_one hb).1
            have hw := bthen2 (blk_one hb).2.2 hbl
            obtain ⟨a0, a1, a2, a3⟩ := blk_cells4 hA.out
            clear hb
            go_wp2_with fail
            refine (end_any _ _ _ _ HG.out (by omega) _).mono ?_; rintro e w2 ⟨rfl, hb⟩
            have hw := bthen2 hb hw
            go_wp2_with fail
            exact ⟨⟨k + 1, o + l, by omega, by go_num, rfl, by omega, Lib.hid HS.out.symm, hw⟩, by simp [intOf]; omega⟩
          · have HS := Lib.hid (HS.out.trans (if_neg q2))
            go_wp2_with fail
            refine (may_any _ _ _ _ HG.out _).mono ?_; rintro e w1 ⟨rfl, hb⟩
            have hA := Lib.hid (blk_one hb).1
            have hw := bthen2 (blk_one hb).2.2 hbl
            obtain ⟨a0, a1, a2, a3⟩ := blk_cells4 hA.out
            clear hb
            go_wp2_with fail
            refine (end_any _ _ _ _ HG.out (by omega) _).mono ?_; rintro e w2 ⟨rfl, hb⟩
            have hw := bthen2 hb hw
            go_wp2_with fail
            exact ⟨⟨k + 1, S, by omega, by go_num, rfl, by omega, Lib.hid HS.out.symm, hw⟩, by simp [intOf]; omega⟩
        · have hs' : En.fin (L.take (k + 1)) = S := by rw [hs]; exact if_neg q
          have hq : (En.ck i o l r == 0) = false := by rw [beq_eq_false_iff_ne]; exact q
          have HS := Lib.hid hs'
          clear hs hs' q
          go_wp2_with fail
          refine (may_any _ _ _ _ HG.out _).mono ?_; rintro e w1 ⟨rfl, hb⟩
          have hA := Lib.hid (blk_one hb).1
          have hw := bthen2 (blk_one hb).2.2 hbl
          obtain ⟨a0, a1, a2, a3⟩ := blk_cells4 hA.out
          clear hb
          go_wp2_with fail
          exact ⟨⟨k + 1, S, by omega, by go_num, rfl, by omega, Lib.hid HS.out.symm, hw⟩, by simp [intOf]; omega⟩
      · have hkn : k = n := by omega
        subst hkn
        have hz : S = En.fin L := by rw [hS.out, List.take_of_length_le (by rw [← HN.out]; omega)]
        have HZ := Lib.hid hz
        clear hz
        go_wp2_with fail
        go_ret
        exact ⟨ret1 HZ.out, hbl⟩
set_option maxHeartbeats 1000000 in
theorem refcount_any (A : Option Addr) (n cap : Nat) (L : List Ent) (B : Nat) (w : World) (hr : Reads w B 4 A n (ecells L)) (hn : n = L.length) (hf : En.fits L) (hB : B ≤ w.heap.size) (hm : n ≤ 65536) :
    Calls Try.prog 27 #[.slice A n cap] w fun e w' => e = .returned (.int .u64 (En.cnt L)) ∧ Below w.heap.size w w' := by
  rcases Nat.eq_zero_or_pos n with h0 | h0
  · have hL : L = [] := List.eq_nil_of_length_eq_zero (by omega)
    subst hL
    subst h0
    clear hr hn hf
    go_enter Try.func27, Try.ntmps27
    go_wp2_with fail
    go_loopw [3, 4] (fun cf ci wr => cf = .int .u64 0 ∧ ci = .int .i64 0 ∧ wr = w) (fun cf ci _ => 4 - (intOf ci).toNat)
    case atStart => exact ⟨rfl, rfl, rfl⟩
    case round =>
      obtain ⟨rfl, rfl, rfl⟩ := hrel
      go_wp2_with fail
      go_ret
      exact ⟨rfl, Below.refl _ _⟩
  · obtain ⟨g, off, rfl, hgB⟩ := hr.plain h0 hn
    have HR := Lib.hid hr
    have HN := Lib.hid hn
    have HF := Lib.hid hf
    clear hr hn hf
    go_enter Try.func27, Try.ntmps27
    go_wp2_with fail
    go_loopw [3, 4] (fun cf ci wr => ∃ (k : Nat) (S : Int), k ≤ n ∧ ci = .int .i64 k ∧ cf = .int .u64 S ∧ (0 ≤ S ∧ S ≤ k * 4294967295) ∧ Hid (S = En.cnt (L.take k)) ∧ Below w.heap.size w wr) (fun _ ci _ => n - (intOf ci).toNat)
    case atStart => exact ⟨0, 0, by omega, rfl, rfl, by omega, Lib.hid (by rfl), Below.refl _ _⟩
    case round =>
      obtain ⟨k, S, hk, rfl, rfl, ⟨hs0, hs1⟩, hS, hbl⟩ := hrel
      by_cases hlt : k < n
      · have hlt' : k < L.length := by rw [← HN.out]; exact hlt
        obtain ⟨c0, c1, c2, c3⟩ := ((HR.out.more hB).below hbl).ent HN.out k hlt'
        have hg := HF.out _ (List.getElem_mem hlt')
        have hs := En.cnt_step L k hlt'
        rw [← hS.out] at hs
        obtain ⟨⟨i, o, l, r⟩, he⟩ : ∃ e, e = L[k]'hlt' := ⟨_, rfl⟩
        rw [← he] at c0 c1 c2 c3 hg hs
        have hg' : En.fit i o l r := hg
        have HG := Lib.hid hg'
        obtain ⟨_, ⟨o0, o1⟩, ⟨l0, l1⟩, r0, r1⟩ := hg'
        have HE := Lib.hid he
        clear he hg hS
        by_cases q : En.ck i o l r = 0
        · have hs' : En.cnt (L.take (k + 1)) = S + r := by rw [hs]; exact if_pos q
          have hq : (En.ck i o l r == 0) = true := by rw [q]; rfl
          have hee := En.ck_end q
          have cw := u64w (a := o + l) (by omega) (by omega)
          have HS := Lib.hid hs'
          have HQ := Lib.hid q
          clear hs hs' q
          go_wp2_with fail
          refine (refcheck_any _ _ _ _ HG.out _).mono ?_; rintro e w1 ⟨rfl, hb⟩
          have hw := bthen2 hb hbl
          clear c0 c1 c2 c3
          obtain ⟨c0, c1, c2, c3⟩ := ((HR.out.more hB).below hw).ent HN.out k hlt'
          rw [← HE.out] at c0 c1 c2 c3
          go_wp2_with fail
          exact ⟨⟨k + 1, S + r, by omega, by go_num, rfl, by omega, Lib.hid HS.out.symm, hw⟩, by simp [intOf]; omega⟩
        · have hs' : En.cnt (L.take (k + 1)) = S := by rw [hs]; exact if_neg q
          have hq : (En.ck i o l r == 0) = false := by rw [beq_eq_false_iff_ne]; exact q
          have HS := Lib.hid hs'
          clear hs hs' q
          go_wp2_with fail
          refine (refcheck_any _ _ _ _ HG.out _).mono ?_; rintro e w1 ⟨rfl, hb⟩
          have hw := bthen2 hb hbl
          clear c0 c1 c2 c3
          obtain ⟨c0, c1, c2, c3⟩ := ((HR.out.more hB).below hw).ent HN.out k hlt'
          rw [← HE.out] at c0 c1 c2 c3
          go_wp2_with fail
          exact ⟨⟨k + 1, S, by omega, by go_num, rfl, by omega, Lib.hid HS.out.symm, hw⟩, by simp [intOf]; omega⟩
      · have hkn : k = n := by omega
        subst hkn
        have hz : S = En.cnt L := by rw [hS.out, List.take_of_length_le (by rw [← HN.out]; omega)]
        have HZ := Lib.hid hz
        clear hz
        go_wp2_with fail
        go_ret
        exact ⟨ret1 HZ.out, hbl⟩
set_option maxHeartbeats 1000000 in
theorem reffin_any (A : Option Addr) (n cap : Nat) (L : List Ent) (B : Nat) (w : World) (hr : Reads w B 4 A n (ecells L)) (hn : n = L.length) (hf : En.fits L) (hB : B ≤ w.heap.size) (hm : n ≤ 65536) :
    Calls Try.prog 31 #[.slice A n cap] w fun e w' => e = .returned (.int .u64 (En.fin L)) ∧ Below w.heap.size w w' := by
  rcases Nat.eq_zero_or_pos n with h0 | h0
  · have hL : L = [] := List.eq_nil_of_length_eq_zero (by omega)
    subst hL
    subst h0
    clear hr hn hf
    go_enter Try.func31, Try.ntmps31
    go_wp2_with fail
    go_loopw [3, 4] (fun cf ci wr => cf = .int .u64 0 ∧ ci = .int .i64 0 ∧ wr = w) (fun cf ci _ => 4 - (intOf ci).toNat)
    case atStart => exact ⟨rfl, rfl, rfl⟩
    case round =>
      obtain ⟨rfl, rfl, rfl⟩ := hrel
      go_wp2_with fail
      go_ret
      exact ⟨rfl, Below.refl _ _⟩
  · obtain ⟨g, off, rfl, hgB⟩ := hr.plain h0 hn
    have HR := Lib.hid hr
    have HN := Lib.hid hn
    have HF := Lib.hid hf
    clear hr hn hf
    go_enter Try.func31, Try.ntmps31
    go_wp2_with fail
    go_loopw [3, 4] (fun cf ci wr => ∃ (k : Nat) (S : Int), k ≤ n ∧ ci = .int .i64 k ∧ cf = .int .u64 S ∧ (0 ≤ S ∧ S ≤ 1099511627776) ∧ Hid (S = En.fin (L.take k)) ∧ Below w.heap.size w wr) (fun _ ci _ => n - (intOf ci).toNat)
    case atStart => exact ⟨0, 0, by omega, rfl, rfl, by omega, Lib.hid (by rfl), Below.refl _ _⟩
    case round =>
      obtain ⟨k, S, hk, rfl, rfl, ⟨hs0, hs1⟩, hS, hbl⟩ := hrel
      by_cases hlt : k < n
      · have hlt' : k < L.length := by rw [← HN.out]; exact hlt
        obtain ⟨c0, c1, c2, c3⟩ := ((HR.out.more hB).below hbl).ent HN.out k hlt'
        have hg := HF.out _ (List.getElem_mem hlt')
        have hs := En.fin_step L k hlt'
        rw [← hS.out] at hs
        obtain ⟨⟨i, o, l, r⟩, he⟩ : ∃ e, e = L[k]'hlt' := ⟨_, rfl⟩
        rw [← he] at c0 c1 c2 c3 hg hs
        have hg' : En.fit i o l r := hg
        have HG := Lib.hid hg'
        obtain ⟨_, ⟨o0, o1⟩, ⟨l0, l1⟩, r0, r1⟩ := hg'
        have HE := Lib.hid he
        clear he hg hS
        by_cases q : En.ck i o l r = 0
        · have hs' : En.fin (L.take (k + 1)) = (if S < o + l then o + l else S) := by rw [hs]; exact if_pos q
          have hq : (En.ck i o l r == 0) = true := by rw [q]; rfl
          have hee := En.ck_end q
          have cw := u64w (a := o + l) (by omega) (by omega)
          have HS := Lib.hid hs'
          have HQ := Lib.hid q
          clear hs hs' q
          by_cases q2 : S < o + l
          · have HS := Lib.hid (HS.out.trans (if_pos q2))
            go_wp2_with fail
            refine (refcheck_any _ _ _ _ HG.out _).mono ?_; rintro e w1 ⟨rfl, hb⟩
            have hw := bthen2 hb hbl
            clear c0 c1 c2 c3
            obtain ⟨c0, c1, c2, c3⟩ := ((HR.out.more hB).below hw).ent HN.out k hlt'
            rw [← HE.out] at c0 c1 c2 c3
            go_wp2_with fail
            have b2 : (0 : Int) ≤ (k : Int) := by omega
            have b3 : (k : Int) < (n : Int) := by omega
            go_quiet (fail)
            have hw := bdraws hw nq
            go_wp2_with fail
            exact ⟨⟨k + 1, o + l, by omega, by go_num, rfl, by omega, Lib.hid HS.out.symm, hw⟩, by simp [intOf]; omega⟩
          · have HS := Lib.hid (HS.out.trans (if_neg q2))
            go_wp2_with fail
            refine (refcheck_any _ _ _ _ HG.out _).mono ?_; rintro e w1 ⟨rfl, hb⟩
            have hw := bthen2 hb hbl
            clear c0 c1 c2 c3
            obtain ⟨c0, c1, c2, c3⟩ := ((HR.out.more hB).below hw).ent HN.out k hlt'
            rw [← HE.out] at c0 c1 c2 c3
            go_wp2_with fail
            have b2 : (0 : Int) ≤ (k : Int) := by omega
            have b3 : (k : Int) < (n : Int) := by omega
            go_quiet (fail)
            have hw := bdraws hw nq
            go_wp2_with fail
            exact ⟨⟨k + 1, S, by omega, by go_num, rfl, by omega, Lib.hid HS.out.symm, hw⟩, by simp [intOf]; omega⟩
        · have hs' : En.fin (L.take (k + 1)) = S := by rw [hs]; exact if_neg q
          have hq : (En.ck i o l r == 0) = false := by rw [beq_eq_false_iff_ne]; exact q
          have HS := Lib.hid hs'
          clear hs hs' q
          go_wp2_with fail
          refine (refcheck_any _ _ _ _ HG.out _).mono ?_; rintro e w1 ⟨rfl, hb⟩
          have hw := bthen2 hb hbl
          clear c0 c1 c2 c3
          obtain ⟨c0, c1, c2, c3⟩ := ((HR.out.more hB).below hw).ent HN.out k hlt'
          rw [← HE.out] at c0 c1 c2 c3
          go_wp2_with fail
          exact ⟨⟨k + 1, S, by omega, by go_num, rfl, by omega, Lib.hid HS.out.symm, hw⟩, by simp [intOf]; omega⟩
      · have hkn : k = n := by omega
        subst hkn
        have hz : S = En.fin L := by rw [hS.out, List.take_of_length_le (by rw [← HN.out]; omega)]
        have HZ := Lib.hid hz
        clear hz
        go_wp2_with fail
        go_ret
        exact ⟨ret1 HZ.out, hbl⟩

end Go.Proofs.Ytppciejcobmikaa
