/- The document's look at the number with which a text begins. -/
import Derived.Test.YtppciejcobmikaaVarGetMath
import Derived.Test.YtppciejcobmikaaVarScan
namespace Go.Proofs.Ytppciejcobmikaa
open Go.RowKit

theorem Vi.wr_ten {L : List Int} (h : 10 ≤ Vi.lead L) : Vi.wr L = 11 ∧ Vi.wn L = 0 := by
  have h1 : Vi.wr L = 11 := by unfold Vi.wr; rw [if_pos h]
  exact ⟨h1, by unfold Vi.wn; rw [h1]; rfl⟩
theorem Vi.wr_short {L : List Int} (h : Vi.lead L < 10) (h2 : Vi.lead L = L.length) : Vi.wr L = 3 ∧ Vi.wn L = 0 := by
  have h1 : Vi.wr L = 3 := by unfold Vi.wr; rw [if_neg (by omega), if_pos h2]
  exact ⟨h1, by unfold Vi.wn; rw [h1]; rfl⟩
theorem Vi.wr_over {L : List Int} {b : Int} (h : Vi.lead L = 9) (h2 : L[9]? = some b) (h3 : 1 < b) : Vi.wr L = 11 ∧ Vi.wn L = 0 := by
  have hl := (List.getElem?_eq_some_iff.1 h2).1
  have hg : L.getD 9 0 = b := by rw [List.getD_eq_getElem?_getD, h2]; rfl
  have h1 : Vi.wr L = 11 := by unfold Vi.wr; rw [if_neg (by omega), if_neg (by omega), if_pos ⟨h, by rw [hg]; exact h3⟩]
  exact ⟨h1, by unfold Vi.wn; rw [h1]; rfl⟩
theorem Vi.wr_form {L : List Int} {n : Nat} (h : Vi.lead L = n) (hn : n < 10) (h2 : L[n]? = some 0) (h3 : 0 < n) : Vi.wr L = 4 ∧ Vi.wn L = 0 := by
  have hl := (List.getElem?_eq_some_iff.1 h2).1
  have hg : L.getD n 0 = 0 := by rw [List.getD_eq_getElem?_getD, h2]; rfl
  have h1 : Vi.wr L = 4 := by
    unfold Vi.wr
    rw [if_neg (by omega), if_neg (by omega), if_neg (by rintro ⟨h4, h5⟩; rw [h] at h4; subst h4; rw [hg] at h5; omega), if_pos ⟨by omega, by rw [h]; exact hg⟩]
  exact ⟨h1, by unfold Vi.wn; rw [h1]; rfl⟩
theorem Vi.wr_fine {L : List Int} {n : Nat} {b : Int} (h : Vi.lead L = n) (hn : n < 10) (h2 : L[n]? = some b) (h3 : n = 9 → b ≤ 1) (h4 : 0 < n → b ≠ 0) : Vi.wr L = 0 ∧ Vi.wn L = n + 1 := by
  have hl := (List.getElem?_eq_some_iff.1 h2).1
  have hg : L.getD n 0 = b := by rw [List.getD_eq_getElem?_getD, h2]; rfl
  have h1 : Vi.wr L = 0 := by
    unfold Vi.wr
    rw [if_neg (by omega), if_neg (by omega), if_neg (by rintro ⟨h5, h6⟩; rw [h] at h5; subst h5; rw [hg] at h6; have := h3 rfl; omega), if_neg (by rintro ⟨h5, h6⟩; rw [h] at h5 h6; rw [hg] at h6; exact h4 h5 h6)]
  exact ⟨h1, by unfold Vi.wn; rw [if_pos h1, h]⟩

set_option maxHeartbeats 2000000 in
theorem wrong_any (t : ByteArray) (h : t.size ≤ 1000000) (w : World) :
    Calls Try.prog 71 #[.string t] w fun e w' => e = .returned (.tuple #[.int .i64 (Vi.wr (Vi.nums t)), .int .i64 (Vi.wn (Vi.nums t))]) ∧ w = w' := by
  have HL := Lib.hid (Vi.nums_len t)
  have HAT := Lib.hid (Vi.nums_at t)
  go_enter Try.func71, Try.ntmps71
  go_wp2_with fail
  go_loop [4] (fun ci => ∃ n : Nat, n ≤ 10 ∧ n ≤ t.size ∧ ci = .int .i64 n ∧ Hid (n ≤ Vi.lead (Vi.nums t))) (fun ci => (10 - intOf ci).toNat)
  case atStart => exact ⟨0, by omega, by omega, rfl, Lib.hid (Nat.zero_le _)⟩
  case round =>
    obtain ⟨n, hn, hs, rfl, hl⟩ := hrel
    by_cases h10 : n = 10
    · subst h10
      have hz := Lib.hid (Vi.wr_ten hl.out)
      go_wp2_with fail
      all_goals
        go_ret2
        exact ⟨ret2 hz.out.1.symm (by rw [hz.out.2]; rfl), rfl⟩
    · by_cases hsz : n = t.size
      · have hle := Vi.lead_le (Vi.nums t)
        have hz : Hid (Vi.wr (Vi.nums t) = 3 ∧ Vi.wn (Vi.nums t) = 0) := Lib.hid (Vi.wr_short (by have h1 := hl.out; have h2 := HL.out; omega) (by have h1 := hl.out; have h2 := HL.out; omega))
        clear hle
        have hd1 : ((n : Int) == 10) = false := by rw [beq_eq_false_iff_ne]; omega
        have hd2 : ((n : Int) == (t.size : Int)) = true := by rw [beq_iff_eq]; omega
        go_wp2_with fail
        go_ret2
        exact ⟨ret2 hz.out.1.symm (by rw [hz.out.2]; rfl), rfl⟩
      · have hlt : n < t.size := by omega
        have hlt10 : n < 10 := by omega
        have hb := HAT.out n hlt
        have hd1 : ((n : Int) == 10) = false := by rw [beq_eq_false_iff_ne]; omega
        have hd2 : ((n : Int) == (t.size : Int)) = false := by rw [beq_eq_false_iff_ne]; omega
        by_cases hbig : 128 ≤ ((t[n]'hlt).toNat : Int)
        · have hm := Lib.hid (Vi.lead_more _ n _ hl.out hb hbig)
          clear hb
          go_wp2_with fail
          go_round
          case rel => exact ⟨n + 1, by omega, by omega, by go_num, hm⟩
          case measure => simp [intOf]; omega
        · have hst := Lib.hid (Vi.lead_stop _ n _ hl.out hb (by omega))
          have HB := Lib.hid hb
          clear hb
          by_cases h9 : n = 9 ∧ 1 < ((t[n]'hlt).toNat : Int)
          · obtain ⟨h9, h1⟩ := h9
            subst h9
            have hz := Lib.hid (Vi.wr_over hst.out HB.out h1)
            go_wp2_with fail
            go_ret2
            exact ⟨ret2 hz.out.1.symm (by rw [hz.out.2]; rfl), rfl⟩
          · by_cases h0 : 0 < n ∧ ((t[n]'hlt).toNat : Int) = 0
            · obtain ⟨h0, h1⟩ := h0
              have hz := Lib.hid (Vi.wr_form hst.out hlt10 (by rw [HB.out, h1]) h0)
              have h1' : (((t[n]'hlt).toNat : Int) == 0) = true := by rw [beq_iff_eq]; exact h1
              have hb1 : ((t[n]'hlt).toNat : Int) ≤ 1 := by omega
              have hn0 : (0 : Int) < (n : Int) := by omega
              clear h1
              by_cases h99 : n = 9
              · subst h99
                go_wp2_with fail
                go_ret2
                exact ⟨ret2 hz.out.1.symm (by rw [hz.out.2]; rfl), rfl⟩
              · have hd3 : ((n : Int) == 9) = false := by rw [beq_eq_false_iff_ne]; omega
                go_wp2_with fail
                go_ret2
                exact ⟨ret2 hz.out.1.symm (by rw [hz.out.2]; rfl), rfl⟩
            · have hz := Lib.hid (Vi.wr_fine hst.out hlt10 HB.out (by omega) (by omega))
              by_cases h99 : n = 9
              · subst h99
                have hb1 : ((t[9]'hlt).toNat : Int) ≤ 1 := by omega
                have h1' : (((t[9]'hlt).toNat : Int) == 0) = false := by rw [beq_eq_false_iff_ne]; omega
                go_wp2_with fail
                go_ret2
                exact ⟨ret2 hz.out.1.symm (by rw [hz.out.2]; rfl), rfl⟩
              · have hd3 : ((n : Int) == 9) = false := by rw [beq_eq_false_iff_ne]; omega
                by_cases h00 : n = 0
                · subst h00
                  go_wp2_with fail
                  go_ret2
                  exact ⟨ret2 hz.out.1.symm (by rw [hz.out.2]; rfl), rfl⟩
                · have hn0 : (0 : Int) < (n : Int) := by omega
                  have h1' : (((t[n]'hlt).toNat : Int) == 0) = false := by rw [beq_eq_false_iff_ne]; omega
                  go_wp2_with fail
                  go_ret2
                  exact ⟨ret2 hz.out.1.symm (by rw [hz.out.2]; rfl), rfl⟩

end Go.Proofs.Ytppciejcobmikaa
