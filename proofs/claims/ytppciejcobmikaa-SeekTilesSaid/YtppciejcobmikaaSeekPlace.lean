/- The walks of seek.id, seek.last, seek.Place and of the document's Place. -/
import Derived.Test.YtppciejcobmikaaSeekMath
import Derived.Test.YtppciejcobmikaaEntRefRow
namespace Go.Proofs.Ytppciejcobmikaa
open Go.RowKit

theorem skid_any (i o l r : Int) (w : World) :
    Calls Try.prog 64 #[.agg #[.int .u64 i, .int .u64 o, .int .u32 l, .int .u32 r]] w fun e w' => e = .returned (.int .u64 i) ∧ Below w.heap.size w w' := by
  go_enter Try.func64, Try.ntmps64
  go_wp2_with fail
  go_ret
  exact ⟨rfl, blk_new _ _⟩

set_option maxHeartbeats 1000000 in
theorem last_seek (A : Option Addr) (n cap : Nat) (L : List Ent) (B : Nat) (w : World) (id : Int) (hr : Reads w B 4 A n (ecells L)) (hn : n = L.length) (hf : En.fits L) (hB : B ≤ w.heap.size) (hrow : En.row L = 0) :
    Calls Try.prog 63 #[.slice A n cap, .int .u64 id, .func (.func 64) #[] #[]] w fun e w' => e = .returned (.int .i64 (Sk.at L id)) ∧ Below w.heap.size w w' := by
  have hm := En.row_len hrow
  rw [← hn] at hm
  rcases Nat.eq_zero_or_pos n with h0 | h0
  · have hL : L = [] := List.eq_nil_of_length_eq_zero (by omega)
    subst hL
    subst h0
    have hz : Sk.at [] id = -1 := by unfold Sk.at; have := Sk.m_le [] id; simp at this; omega
    rw [hz]
    clear hr hn hf hrow hz
    go_enter Try.func63, Try.ntmps63
    go_wp2_with fail
    go_loopw [7, 8] (fun ca cb wr => ca = .int .i64 0 ∧ cb = .int .i64 0 ∧ wr = w) (fun ca _ _ => 4 - (intOf ca).toNat)
    case atStart => exact ⟨rfl, rfl, rfl⟩
    case round =>
      obtain ⟨rfl, rfl, rfl⟩ := hrel
      go_wp2_with fail
      go_ret
      exact ⟨rfl, Below.refl _ _⟩
  · obtain ⟨g, off, rfl, hgB⟩ := hr.plain h0 hn
    have HR := Lib.hid hr
    have HN := Lib.hid hn
    have HF := Lib.hid hf
    have HW := Lib.hid hrow
    clear hr hn hf hrow
    go_enter Try.func63, Try.ntmps63
    go_wp2_with fail
    go_loopw [7, 8] (fun ca cb wr => ∃ (a b : Nat), a ≤ b ∧ b ≤ n ∧ ca = .int .i64 a ∧ cb = .int .i64 b ∧ Hid (∀ i, i < a → (Sk.g L i).1 ≤ id) ∧ Hid (∀ i, b ≤ i → i < n → id < (Sk.g L i).1) ∧ Below w.heap.size w wr) (fun ca cb _ => (intOf cb - intOf ca).toNat)
    case atStart => exact ⟨0, n, by omega, by omega, rfl, rfl, Lib.hid (fun i h => by omega), Lib.hid (fun i h1 h2 => by omega), Below.refl _ _⟩
    case round =>
      obtain ⟨a, b, hab, hbn, rfl, rfl, hI1, hI2, hbl⟩ := hrel
      by_cases hlt : a < b
      · obtain ⟨m, hm1, hm2, hmd⟩ : ∃ m : Nat, a ≤ m ∧ m < b ∧ m = (a + b) / 2 := ⟨(a + b) / 2, by omega, by omega, rfl⟩
        have hlt' : m < L.length := by rw [← HN.out]; omega
        obtain ⟨c0, c1, c2, c3⟩ := ((HR.out.more hB).below hbl).ent HN.out m hlt'
        have hg0 := Sk.g_eq hlt'
        obtain ⟨⟨i, o, l, r⟩, he⟩ : ∃ e, e = L[m]'hlt' := ⟨_, rfl⟩
        rw [← he] at c0 c1 c2 c3 hg0
        have HG := Lib.hid hg0
        have hmz : ((a : Int) + (b : Int)) / 2 = (m : Int) := by omega
        have hmn : m < n := by omega
        clear he hg0 hmd
        have hlo : i ≤ id → ∀ x, x < m + 1 → (Sk.g L x).1 ≤ id := fun hc x hx => by
          have := Sk.mono HF.out HW.out x m (by omega) hlt'
          rw [HG.out] at this
          exact Int.le_trans this hc
        have hhi : ¬ i ≤ id → ∀ x, m ≤ x → x < n → id < (Sk.g L x).1 := fun hc x h1 h2 => by
          have := Sk.mono HF.out HW.out m x h1 (by rw [← HN.out]; exact h2)
          rw [HG.out] at this
          dsimp only at this
          omega
        have HLO := Lib.hid hlo
        have HHI := Lib.hid hhi
        clear hlo hhi
        by_cases hc : i ≤ id
        · go_wp2_with fail
          refine (skid_any _ _ _ _ _).mono ?_; rintro e w1 ⟨rfl, hb⟩
          have hw := bthen2 hb hbl
          clear hb
          go_wp2_with fail
          exact ⟨⟨m + 1, b, by omega, by omega, by go_num, rfl, Lib.hid (HLO.out hc), hI2, hw⟩, by simp [intOf]; omega⟩
        · go_wp2_with fail
          refine (skid_any _ _ _ _ _).mono ?_; rintro e w1 ⟨rfl, hb⟩
          have hw := bthen2 hb hbl
          clear hb
          go_wp2_with fail
          exact ⟨⟨a, m, by omega, by omega, rfl, by go_num, hI1, Lib.hid (HHI.out hc), hw⟩, by simp [intOf]; omega⟩
      · obtain rfl : a = b := by omega
        have hz : Sk.at L id = (a : Int) - 1 := by
          unfold Sk.at
          rw [Sk.m_of HW.out a (by rw [← HN.out]; omega) hI1.out (fun i h1 h2 => hI2.out i h1 (by rw [HN.out]; exact h2))]
        have HZ := Lib.hid hz
        clear hz
        go_wp2_with fail
        go_ret
        exact ⟨ret1 HZ.out.symm, hbl⟩

theorem bne0 {a : Int} (h : ¬ a = 0) : (a != 0) = true := by simpa using h
set_option maxHeartbeats 1000000 in
theorem place_any (A : Option Addr) (n cap : Nat) (L : List Ent) (B : Nat) (w : World) (id : Int) (hr : Reads w B 4 A n (ecells L)) (hn : n = L.length) (hf : En.fits L) (hB : B ≤ w.heap.size) (hm : n ≤ 140737488355328) :
    Calls Try.prog 37 #[.slice A n cap, .int .u64 id] w fun e w' => e = .returned (.int .i64 (Sk.at L id)) ∧ Below w.heap.size w w' := by
  have HR := Lib.hid hr
  have HN := Lib.hid hn
  have HF := Lib.hid hf
  clear hr hn hf
  by_cases h : En.row L = 0
  · have hq : (En.row L != 0) = false := by rw [h]; rfl
    have HW := Lib.hid h
    clear h
    go_enter Try.func37, Try.ntmps37
    go_wp2_with fail
    refine (row_any _ _ _ L _ _ HR.out HN.out HF.out hB hm).mono ?_; rintro e w1 ⟨rfl, hb⟩
    have hw := hb
    clear hb
    go_wp2_with fail
    refine (last_seek _ _ _ L _ _ _ (HR.out.below (hw.mono hB)) HN.out HF.out (Nat.le_trans hB hw.size) HW.out).mono ?_; rintro e w1 ⟨rfl, hb⟩
    have hw := bthen2 hb hw
    clear hb
    go_wp2_with fail
    go_ret
    exact ⟨rfl, hw⟩
  · have hz : Sk.at L id = -1 := by unfold Sk.at Sk.m; rw [if_neg h]; rfl
    rw [hz]
    have hq := bne0 h
    clear h hz
    go_enter Try.func37, Try.ntmps37
    go_wp2_with fail
    refine (row_any _ _ _ L _ _ HR.out HN.out HF.out hB hm).mono ?_; rintro e w1 ⟨rfl, hb⟩
    have hw := hb
    clear hb
    go_wp2_with fail
    go_ret
    exact ⟨rfl, hw⟩

set_option maxHeartbeats 1000000 in
theorem refplace_any (A : Option Addr) (n cap : Nat) (L : List Ent) (B : Nat) (w : World) (id : Int) (hr : Reads w B 4 A n (ecells L)) (hn : n = L.length) (hf : En.fits L) (hB : B ≤ w.heap.size) (hm : n ≤ 140737488355328) :
    Calls Try.prog 38 #[.slice A n cap, .int .u64 id] w fun e w' => e = .returned (.int .i64 (Sk.at L id)) ∧ Below w.heap.size w w' := by
  have HR := Lib.hid hr
  have HN := Lib.hid hn
  have HF := Lib.hid hf
  clear hr hn hf
  by_cases h : En.row L = 0
  · have hq : (En.row L != 0) = false := by rw [h]; rfl
    have hat : Sk.at L id = (Sk.p id L n : Int) - 1 := by unfold Sk.at Sk.m; rw [if_pos h, HN.out]
    have HW := Lib.hid h
    have HA := Lib.hid hat
    clear h hat
    go_enter Try.func38, Try.ntmps38
    go_wp2_with fail
    refine (refrow_any _ _ _ L _ _ HR.out HN.out HF.out hB hm).mono ?_; rintro e w1 ⟨rfl, hb⟩
    have hw := hb
    clear hb
    go_wp2_with fail
    go_loopw [5, 6] (fun ca ci wr => ∃ (k m : Nat), k ≤ n ∧ m ≤ k ∧ ci = .int .i64 k ∧ ca = .int .i64 ((m : Int) - 1) ∧ Hid (m = Sk.p id L k) ∧ Below w.heap.size w wr) (fun _ ci _ => n - (intOf ci).toNat)
    case atStart => exact ⟨0, 0, by omega, by omega, rfl, rfl, Lib.hid rfl, hw⟩
    case round =>
      obtain ⟨k, m, hk, hmk, rfl, rfl, hI, hbl⟩ := hrel
      by_cases hlt : k < n
      · have hlt' : k < L.length := by rw [← HN.out]; exact hlt
        obtain ⟨g, off, hA, hgB⟩ := HR.out.plain (by omega) HN.out
        have HR' := HR.out
        rw [hA] at HR'
        subst hA
        obtain ⟨c0, c1, c2, c3⟩ := ((HR'.more hB).below hbl).ent HN.out k hlt'
        have hs := Sk.p_step (id := id) hlt'
        rw [← hI.out] at hs
        clear HR'
        obtain ⟨⟨i, o, l, r⟩, he⟩ : ∃ e, e = L[k]'hlt' := ⟨_, rfl⟩
        rw [← he] at c0 c1 c2 c3 hs
        have HS := Lib.hid hs
        clear he hs hI
        by_cases hc : i ≤ id
        · have hs' : k + 1 = Sk.p id L (k + 1) := by rw [HS.out]; exact (if_pos hc).symm
          have HS' := Lib.hid hs'
          clear hs'
          go_wp2_with fail
          exact ⟨⟨k + 1, k + 1, by omega, by omega, by go_num, by go_num, HS', hbl⟩, by simp [intOf]; omega⟩
        · have hs' : m = Sk.p id L (k + 1) := by rw [HS.out]; exact (if_neg hc).symm
          have HS' := Lib.hid hs'
          clear hs'
          go_wp2_with fail
          exact ⟨⟨k + 1, m, by omega, by omega, by go_num, rfl, HS', hbl⟩, by simp [intOf]; omega⟩
      · obtain rfl : k = n := by omega
        have hz : Sk.at L id = (m : Int) - 1 := by rw [HA.out, ← hI.out]
        have HZ := Lib.hid hz
        clear hz
        go_wp2_with fail
        go_ret
        exact ⟨ret1 HZ.out.symm, hbl⟩
  · have hz : Sk.at L id = -1 := by unfold Sk.at Sk.m; rw [if_neg h]; rfl
    rw [hz]
    have hq := bne0 h
    clear h hz
    go_enter Try.func38, Try.ntmps38
    go_wp2_with fail
    refine (refrow_any _ _ _ L _ _ HR.out HN.out HF.out hB hm).mono ?_; rintro e w1 ⟨rfl, hb⟩
    have hw := hb
    clear hb
    go_wp2_with fail
    go_ret
    exact ⟨rfl, hw⟩

end Go.Proofs.Ytppciejcobmikaa
