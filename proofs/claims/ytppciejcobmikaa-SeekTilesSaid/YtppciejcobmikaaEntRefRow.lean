/- Whether entries may be a row: the document's. -/
import Derived.Test.YtppciejcobmikaaEntRow
import Derived.IntWalk
namespace Go.Proofs.Ytppciejcobmikaa
open Go.RowKit

set_option maxHeartbeats 1000000 in
theorem refrow_any (A : Option Addr) (n cap : Nat) (L : List Ent) (B : Nat) (w : World) (hr : Reads w B 4 A n (ecells L)) (hn : n = L.length) (hf : En.fits L) (hB : B ≤ w.heap.size) (hm : n ≤ 140737488355328) :
    Calls Try.prog 25 #[.slice A n cap] w fun e w' => e = .returned (.int .i64 (En.row L)) ∧ Below w.heap.size w w' := by
  by_cases c : 4096 < n
  · have e : En.row L = 21 := by unfold En.row; rw [if_pos (by omega)]
    rw [e]
    clear e hr hn
    go_enter Try.func25, Try.ntmps25
    go_wp2_with fail
    go_ret
    exact ⟨rfl, Below.refl _ _⟩
  · have e : En.row L = En.rowFrom 0 L := by unfold En.row; rw [if_neg (by omega)]
    rw [e]
    rcases Nat.eq_zero_or_pos n with h0 | h0
    · have hL : L = [] := List.eq_nil_of_length_eq_zero (by omega)
      subst hL
      subst h0
      clear e hr hn hf
      go_enter Try.func25, Try.ntmps25
      go_wp2_with fail
      go_loopw [3] (fun ci wr => ci = .int .i64 0 ∧ wr = w) (fun ci _ => 4 - (intOf ci).toNat)
      case atStart => exact ⟨rfl, rfl⟩
      case round =>
        obtain ⟨rfl, rfl⟩ := hrel
        go_wp2_with fail
        go_ret
        exact ⟨rfl, Below.refl _ _⟩
    · obtain ⟨g, off, rfl, hgB⟩ := hr.plain h0 hn
      have HR := Lib.hid hr
      have HN := Lib.hid hn
      have HF := Lib.hid hf
      clear e hr hn hf
      go_enter Try.func25, Try.ntmps25
      go_wp2_with fail
      go_loopw [3] (fun ci wr => ∃ (k : Nat) (f : Int), k ≤ n ∧ ci = .int .i64 k ∧ (0 ≤ f ∧ f ≤ 6004799503160661) ∧ Hid (En.rowFrom f (L.drop k) = En.rowFrom 0 L ∧ ((k = 0 ∧ f = 0) ∨ ∃ (m : Nat) (hm : m < L.length), k = m + 1 ∧ f = En.l (L[m]'hm) + 1)) ∧ Below w.heap.size w wr) (fun ci _ => n - (intOf ci).toNat)
      case atStart => exact ⟨0, 0, by omega, rfl, by omega, Lib.hid ⟨by rfl, Or.inl ⟨rfl, rfl⟩⟩, Below.refl _ _⟩
      case round =>
        obtain ⟨k, f, hk, rfl, ⟨hf0, hf1⟩, hIJ, hbl⟩ := hrel
        have hI := Lib.hid hIJ.out.1
        have hJ := Lib.hid hIJ.out.2
        clear hIJ
        by_cases hlt : k < n
        · have hlt' : k < L.length := by rw [← HN.out]; exact hlt
          obtain ⟨c0, c1, c2, c3⟩ := ((HR.out.more hB).below hbl).ent HN.out k hlt'
          have hg := HF.out _ (List.getElem_mem hlt')
          have hs := hI.out
          rw [En.rowFrom_step hlt'] at hs
          have hl := fun q => En.l_in hg q
          unfold En.l En.c at *
          obtain ⟨⟨i, o, l, r⟩, he⟩ : ∃ e, e = L[k]'hlt' := ⟨_, rfl⟩
          rw [← he] at c0 c1 c2 c3 hg hs hl
          have hg' : En.fit i o l r := hg
          have hl' : En.ck i o l r = 0 → 0 ≤ En.la i o l r ∧ En.la i o l r < 6004799503160661 := hl
          have HE := Lib.hid he
          have HG := Lib.hid hg'
          have HS := Lib.hid hs
          have HL := Lib.hid hl'
          clear he hg hg' hs hl hl' hI
          rcases Decidable.em (En.ck i o l r = 0) with q | q
          · obtain ⟨hl0, hl1⟩ := HL.out q
            have hq : (En.ck i o l r != 0) = false := by rw [q]; rfl
            have HQ := Lib.hid q
            clear q
            rcases hJ.out with ⟨rfl, rfl⟩ | ⟨m, hm', rfl, hfm⟩
            · simp only [Nat.zero_mul, Nat.add_zero] at c0 c1 c2 c3
              obtain ⟨⟨i0, i1⟩, _⟩ := HG.out
              have hz : En.rowFrom (En.la i o l r + 1) (L.drop (0 + 1)) = En.rowFrom 0 L := by rw [← HS.out, if_pos HQ.out, if_neg (by omega)]
              have HZ := Lib.hid hz
              clear hz hJ
              go_wp2_with fail
              refine (refcheck_any _ _ _ _ HG.out _).mono ?_; rintro e w1 ⟨rfl, hb⟩
              have hw := bthen2 hb hbl
              clear c0 c1 c2 c3
              go_wp2_with fail
              go_quiet (fail)
              go_wp2_with fail
              exact ⟨⟨0 + 1, En.la i o l r + 1, by omega, by go_num, by omega, Lib.hid ⟨HZ.out, Or.inr ⟨0, hlt', rfl, by rw [← HE.out]⟩⟩, bdraws hw _⟩, by simp [intOf]; omega⟩
            · have hp := HF.out _ (List.getElem_mem hm')
              obtain ⟨p0, p1, p2, p3⟩ := ((HR.out.more hB).below hbl).ent HN.out m hm'
              obtain ⟨⟨i', o', l', r'⟩, he'⟩ : ∃ e, e = L[m]'hm' := ⟨_, rfl⟩
              rw [← he'] at p0 p1 p2 p3 hp hfm
              have hp' : En.fit i' o' l' r' := hp
              have hfm' : f = En.la i' o' l' r' + 1 := hfm
              have HP := Lib.hid hp'
              obtain ⟨⟨i0, i1⟩, _⟩ := HG.out
              have hmi : ((m + 1 : Nat) : Int) - 1 = (m : Int) := by omega
              have HE' := Lib.hid he'
              clear he' hp hp' hfm hJ
              by_cases q2 : i < f
              · have hz : En.rowFrom 0 L = 10 := by rw [← HS.out, if_pos HQ.out, if_pos q2]
                have HZ := Lib.hid hz
                have ht : decide (i ≤ En.la i' o' l' r') = true := decide_eq_true (by omega)
                clear hz
                go_wp2_with fail
                refine (refcheck_any _ _ _ _ HG.out _).mono ?_; rintro e w1 ⟨rfl, hb⟩
                have hw := bthen2 hb hbl
                clear c0 c1 c2 c3 p0 p1 p2 p3 hb
                obtain ⟨c0, c1, c2, c3⟩ := ((HR.out.more hB).below hw).ent HN.out (m + 1) hlt'
                obtain ⟨p0, p1, p2, p3⟩ := ((HR.out.more hB).below hw).ent HN.out m hm'
                rw [← HE.out] at c0
                rw [← HE'.out] at p0 p1 p2 p3
                clear c1 c2 c3
                go_wp2_with fail
                have b0 : (0 : Int) ≤ (m : Int) + 1 := by omega
                have b1 : (m : Int) + 1 < (n : Int) := by omega
                have b2 : (0 : Int) ≤ (m : Int) := by omega
                have b3 : (m : Int) < (n : Int) := by omega
                have b4 : ((m : Int) + 1).toNat = m + 1 := by omega
                have hmw : IntKind.i64.wrap (m : Int) = (m : Int) := IntWalk.i64_in _ (by omega)
                go_region_held3 (fun w' => w'.cell? ⟨g, off + (m + 1) * 4, none⟩ = some (.int .u64 i) ∧ w'.cell? ⟨g, off + m * 4, none⟩ = some (.int .u64 i') ∧ w'.cell? ⟨g, off + m * 4 + 1, none⟩ = some (.int .u64 o') ∧ w'.cell? ⟨g, off + m * 4 + 2, none⟩ = some (.int .u32 l') ∧ w'.cell? ⟨g, off + m * 4 + 3, none⟩ = some (.int .u32 r')) (exact ⟨c0, p0, p1, p2, p3⟩) (first | (go_at_call 19; refine (reflast_any _ _ _ _ HP.out _).mono ?_; rintro e w2 ⟨rfl, hb⟩; have hw := held_then hb (by first | exact hw | exact Below.drew hw | exact bdraws hw _); have hR2 := ((HR.out.more hB).below hw); have c0 := (hR2.ent HN.out (m + 1) hlt').1; rw [← HE.out] at c0; obtain ⟨p0, p1, p2, p3⟩ := hR2.ent HN.out m hm'; rw [← HE'.out] at p0 p1 p2 p3; clear hR2 hb))
                all_goals
                  go_wp2_with fail
                  go_ret
                  exact ⟨ret1 HZ.out.symm, hw⟩
              · have hz : En.rowFrom (En.la i o l r + 1) (L.drop (m + 1 + 1)) = En.rowFrom 0 L := by rw [← HS.out, if_pos HQ.out, if_neg q2]
                have HZ := Lib.hid hz
                have ht : decide (i ≤ En.la i' o' l' r') = false := decide_eq_false (by omega)
                clear hz
                go_wp2_with fail
                refine (refcheck_any _ _ _ _ HG.out _).mono ?_; rintro e w1 ⟨rfl, hb⟩
                have hw := bthen2 hb hbl
                clear c0 c1 c2 c3 p0 p1 p2 p3 hb
                obtain ⟨c0, c1, c2, c3⟩ := ((HR.out.more hB).below hw).ent HN.out (m + 1) hlt'
                obtain ⟨p0, p1, p2, p3⟩ := ((HR.out.more hB).below hw).ent HN.out m hm'
                rw [← HE.out] at c0
                rw [← HE'.out] at p0 p1 p2 p3
                clear c1 c2 c3
                go_wp2_with fail
                have b0 : (0 : Int) ≤ (m : Int) + 1 := by omega
                have b1 : (m : Int) + 1 < (n : Int) := by omega
                have b2 : (0 : Int) ≤ (m : Int) := by omega
                have b3 : (m : Int) < (n : Int) := by omega
                have b4 : ((m : Int) + 1).toNat = m + 1 := by omega
                have hmw : IntKind.i64.wrap (m : Int) = (m : Int) := IntWalk.i64_in _ (by omega)
                go_region_held3 (fun w' => w'.cell? ⟨g, off + (m + 1) * 4, none⟩ = some (.int .u64 i) ∧ w'.cell? ⟨g, off + m * 4, none⟩ = some (.int .u64 i') ∧ w'.cell? ⟨g, off + m * 4 + 1, none⟩ = some (.int .u64 o') ∧ w'.cell? ⟨g, off + m * 4 + 2, none⟩ = some (.int .u32 l') ∧ w'.cell? ⟨g, off + m * 4 + 3, none⟩ = some (.int .u32 r')) (exact ⟨c0, p0, p1, p2, p3⟩) (first | (go_at_call 19; refine (reflast_any _ _ _ _ HP.out _).mono ?_; rintro e w2 ⟨rfl, hb⟩; have hw := held_then hb (by first | exact hw | exact Below.drew hw | exact bdraws hw _); have hR2 := ((HR.out.more hB).below hw); have c0 := (hR2.ent HN.out (m + 1) hlt').1; rw [← HE.out] at c0; obtain ⟨p0, p1, p2, p3⟩ := hR2.ent HN.out m hm'; rw [← HE'.out] at p0 p1 p2 p3; clear hR2 hb))
                all_goals
                  go_wp2_with fail
                  exact ⟨⟨m + 1 + 1, En.la i o l r + 1, by omega, by go_num, by omega, Lib.hid ⟨HZ.out, Or.inr ⟨m + 1, hlt', rfl, by rw [← HE.out]⟩⟩, hw⟩, by simp [intOf]; omega⟩
          · have hz : En.rowFrom 0 L = En.ck i o l r := by rw [← HS.out, if_neg q]
            have hq : (En.ck i o l r != 0) = true := by rw [bne_iff_ne]; exact q
            have HZ := Lib.hid hz
            clear hz q
            go_wp2_with fail
            refine (refcheck_any _ _ _ _ HG.out _).mono ?_; rintro e w1 ⟨rfl, hb⟩
            have hw := bthen2 hb hbl
            go_wp2_with fail
            go_ret
            exact ⟨ret1 HZ.out.symm, hw⟩
        · have hkn : k = n := by omega
          subst hkn
          have hz : En.rowFrom 0 L = 0 := by rw [← hI.out, List.drop_of_length_le (by rw [← HN.out]; omega)]; rfl
          have HZ := Lib.hid hz
          clear hz
          go_wp2_with fail
          go_ret
          exact ⟨ret1 HZ.out.symm, hbl⟩

end Go.Proofs.Ytppciejcobmikaa
