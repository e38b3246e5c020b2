/- The walk of the statement TopOnce. -/
import Derived.Test.YtlfahmdndlmhpaaGreatDoorM49
import Derived.Test.YtlfahmdndlmhpaaGreatDoorM30
import Derived.Test.YtlfahmdndlmhpaaGreatDoorM33
import Derived.Test.YtlfahmdndlmhpaaGreatDoorM10
import Derived.Test.YtlfahmdndlmhpaaGreatDoorM32
import Derived.Deep.QuietTactic
import Derived.BigQuiet
namespace Go.Proofs.YtlfahmdndlmhpaaGreatDoor
open Go.RowKit Go.Shelf

set_option maxRecDepth 100000 in
set_option maxHeartbeats 4000000 in
theorem once_any (w : World) (A0 : Option Addr) (n0 c0 : Nat) (L0 : List Itm) (hr0 : Reads w w.heap.size 2 A0 n0 (icells L0)) (hn0 : n0 = L0.length) (hp0 : ∀ x ∈ L0, 0 ≤ x.1) (hz0 : ∀ x ∈ L0, x.2.size ≤ 140737488355328) (hm0 : n0 * 24 ≤ 140737488355328) :
    Calls Tryz.prog 3 #[.slice A0 n0 c0] w fun e w' => e = .returned (.bool true) ∧ Below w.heap.size w w' := by
  have HR := Lib.hid hr0
  have HN := Lib.hid hn0
  have HPZ := Lib.hid (And.intro hp0 hz0)
  have HOV := Lib.hid (over_any A0 n0 c0 L0 w.heap.size w hr0 hn0 hz0 hm0)
  clear hr0 hn0 hp0 hz0 hm0
  go_enter Tryz.func3, Tryz.ntmps3
  go_wp2_with fail
  refine HOV.out.mono ?_; rintro e w1 ⟨b, rfl, hov, rfl⟩
  cases b with
  | true =>
    clear hov
    go_wp2_with fail
    refine (awake_any _).mono ?_; rintro e w1 ⟨rfl, hb1⟩
    go_wp2_with fail
    go_ret
    exact ⟨rfl, hb1⟩
  | false =>
    obtain ⟨h60, h3000⟩ := hov rfl
    clear hov
    go_wp2_with fail
    refine (own12_any A0 n0 c0 L0 w.heap.size w HR.out HN.out HPZ.out.1 HPZ.out.2 (Nat.le_refl _) (by rw [HN.out]; exact h60) h3000).mono ?_; rintro e w1 ⟨A, m, c, M, v, rfl, hM, hmc, hrM, hok, hsum, hm60, hb1⟩
    subst hM
    have HOK := Lib.hid hok
    have HSUM := Lib.hid hsum
    have HRM := Lib.hid (hrM.alloc (Nat.le_refl _) (.cells #[.slice A M.length c] 27))
    have HC1 := Lib.hid (heap_alloc_new w1 (.cells #[.slice A M.length c] 27))
    have HW1 := Lib.hid (hb1.alloc hb1.size (.cells #[.slice A M.length c] 27))
    have hz1 := hb1.size
    clear hb1 hrM hok hsum h60 h3000
    go_wp2_with fail
    refine (press_read A M.length c M w1.heap.size _ HRM.out rfl HOK.out (by simp) hm60 HSUM.out).mono ?_; rintro e w2 ⟨s, rfl, hN2, _, hb2⟩
    have HN2 := Lib.hid hN2
    have HRM2 := Lib.hid (HRM.out.below (hb2.mono (by simp)))
    have HC2 := Lib.hid (blk_keep2 hb2 HC1.out)
    have HW2 := Lib.hid (bthen HW1.out hb2)
    have hz2 := blk_lt HC2.out
    clear hN2 hb2
    go_wp2_with fail
    refine (HN2.out _).mono ?_; rintro e w3 ⟨v3, rfl, hO3, hb3⟩
    obtain ⟨E, hE⟩ : ∃ E, E = (Mg.rows M).2 := ⟨_, rfl⟩
    obtain ⟨d, hd⟩ : ∃ d, d = strOfNums (Pl.text (Mg.rows M).1) := ⟨_, rfl⟩
    have HINV := Lib.hid (Mg.whole HOK.out (by have := HSUM.out; omega) (by omega))
    have HD : Hid (d.size = Tm.tot M M.length) := Lib.hid (by rw [hd, strOfNums_size, Tm.tot_all HINV.out])
    have hEl : E.length ≤ 60 := by have := HINV.out.len; rw [hE]; omega
    have HEF := Lib.hid (Mg.inv_fits HINV.out)
    rw [← hE] at hO3 HINV HEF
    rw [← hd]
    obtain ⟨AE, kE, rfl, _⟩ := own_slice hO3
    have HO3 := Lib.hid (Reads.of_own hO3)
    have HRM3 := Lib.hid (HRM2.out.below (hb3.mono (by omega)))
    have HC3 := Lib.hid (blk_keep2 hb3 HC2.out)
    have HW3 := Lib.hid (bthen HW2.out hb3)
    have hz3 := blk_lt HC3.out
    have x0 := cell_of_row w3 w1.heap.size 0 _ _ _ HC3.out
    clear hO3 hb3 hE hd
    go_wp2_with fail
    refine (items_any A M.length c M w1.heap.size w3 HRM3.out rfl (by omega) (by omega)).mono ?_; rintro e w4 ⟨v4, rfl, hO4, hb4⟩
    obtain ⟨AI, kI, rfl, _⟩ := own_slice hO4
    have HE4 := Lib.hid ((HO3.out.below hb4).more hb4.size)
    have HI4 := Lib.hid (Reads.of_own hO4)
    have HW4 := Lib.hid (bthen HW3.out hb4)
    clear hO4 hb4 x0
    obtain ⟨i0, hi, iz0, iz1, iz2⟩ := info_parts ent_info
    go_wp2_with fail
    go_loopw [11, 12, 13] (fun ca cs ci wr => ∃ (i : Nat) (T : List Ent) (u : Int), i ≤ M.length ∧ ci = .int .i64 ((i : Nat) : Int) ∧ cs = .int .i64 u ∧ Hid (u = (Tm.tot M i : Int)) ∧ 0 ≤ u ∧ u ≤ 3000 ∧ Hid (Tm.At M (Mg.rows M).1 T i) ∧ Hid (wr.ownsRow w4.heap.size 43 4 ca i (ecells T)) ∧ Below w4.heap.size w4 wr) (fun _ _ ci _ => M.length - (intOf ci).toNat)
    case atStart => exact ⟨0, [], 0, by omega, rfl, rfl, Lib.hid rfl, by omega, by omega, Lib.hid (Tm.at_nil _ _), Lib.hid (World.ownsRow_nil _ _ _ _), Below.refl _ _⟩
    case round =>
      obtain ⟨i, T, u, him, rfl, rfl, HU, hu0, hu1, HT, HOT, hbl⟩ := hrel
      by_cases hlt : i < M.length
      · skip
        obtain ⟨n, hn, hlast, hno, hnl⟩ := Tm.pick HINV.out HOK.out i hlt
        obtain ⟨gE, oE, hAE, hgE⟩ := HE4.out.plain (by omega) rfl
        obtain ⟨gI, oI, hAI, hgI⟩ := HI4.out.iplain (by omega) rfl
        subst hAE
        subst hAI
        have HEC := Lib.hid (fun W (h : Below w4.heap.size w4 W) (k : Nat) (hk : k < E.length) => (HE4.out.below h).ent rfl k hk)
        have HIC := Lib.hid (fun W (h : Below w4.heap.size w4 W) (k : Nat) (hk : k < M.length) => (HI4.out.below h).itm rfl k hk)
        have hgood := HOK.out.good _ (List.getElem_mem hlt)
        have htf := Tm.tot_first M i hlt
        have hta := Tm.tot_again M i hlt
        have htl := Tm.tot_le M (i + 1)
        have hsame := fun k (hk : k < i) => Tm.at_same HINV.out HOK.out HT.out hlt hk ⟨hno, hnl⟩
        have hsnoc := Tm.at_snoc HT.out hlt ⟨hno, hnl⟩
        obtain ⟨⟨id, t⟩, he⟩ : ∃ e, e = M[i]'hlt := ⟨_, rfl⟩
        rw [← he] at hlast hgood htf hta hsame
        obtain ⟨_, _, ht64⟩ := hgood
        dsimp only at hlast htf hta hsame ht64
        have HID := Lib.hid he
        have HL := Lib.hid hlast
        have HTT := Lib.hid (And.intro htf (And.intro hta htl))
        have HSM := Lib.hid hsame
        have HSN := Lib.hid hsnoc
        have hn60 : n < 60 := by omega
        have HBL := Lib.hid hbl
        obtain ⟨AT, kT, hv, hkT⟩ := own_slice HOT.out
        subst hv
        obtain ⟨wo, hwo⟩ : ∃ wo : World, wo = wr := ⟨_, rfl⟩
        subst hwo
        clear hbl he hlast htf hta htl hsame hsnoc hno hnl
        go_wp2_with fail
        go_loopw [14, 15] (fun cn ck wx => ∃ k : Nat, k ≤ E.length ∧ ck = .int .i64 ((k : Nat) : Int) ∧ cn = .int .i64 (Tm.last E id k) ∧ Below wo.heap.size wo wx) (fun _ ck _ => E.length - (intOf ck).toNat)
        case atStart => exact ⟨0, by omega, rfl, rfl, Below.refl _ _⟩
        case round =>
          obtain ⟨k, hkE, rfl, rfl, hbx⟩ := hrel
          have HB4 : Hid (Below w4.heap.size w4 wr) := Lib.hid (HBL.out.trans (hbx.mono HBL.out.size))
          by_cases hk : k < E.length
          · obtain ⟨e0, e1, e2, e3⟩ := HEC.out wr HB4.out k hk
            obtain ⟨c0, c1⟩ := HIC.out wr HB4.out i hlt
            rw [← HID.out] at c0 c1
            have hfit := HEF.out _ (List.getElem_mem hk)
            have hyes := Tm.last_yes E id k hk
            have hno := Tm.last_no E id k hk
            obtain ⟨⟨i', o', l', r'⟩, hek⟩ : ∃ e, e = E[k]'hk := ⟨_, rfl⟩
            rw [← hek] at e0 e1 e2 e3 hfit hyes hno
            dsimp only at e0 e1 e2 e3 c0 c1 hfit hyes hno
            have HF := Lib.hid hfit
            have HBX := Lib.hid hbx
            have HST : Hid (∀ b, En.hs i' o' l' r' id = b → Tm.last E id (k + 1) = if b = true then (k : Int) else Tm.last E id k) := Lib.hid (fun b hb => by cases b; exact hno hb; exact hyes hb)
            clear hek hfit hyes hno hbx
            go_wp2_with fail
            refine wp_region_still_tail 9 (by kernel_rfl) (by kernel_rfl) ?_
            simp only [List.take_succ_cons, List.take_zero, List.drop_succ_cons, List.drop_zero]
            iterate 9 still_step
            refine wpStill_nil ?_
            change wpList _ _ _ _ _ wr.drew
            go_wp2_with fail
            refine (has_any i' o' l' r' id HF.out _).mono ?_; rintro e w6 ⟨rfl, hb6⟩
            have HW6 := Lib.hid (bthen (Below.drew HBX.out) hb6)
            clear hb6 e0 e1 e2 e3 c0 c1
            cases hh : En.hs i' o' l' r' id with
            | true =>
              have hst := HST.out _ hh
              clear hh
              go_wp2_with fail
              exact ⟨⟨k + 1, by omega, by go_num, by rw [hst]; rfl, HW6.out⟩, by simp [intOf]; omega⟩
            | false =>
              have hst := HST.out _ hh
              clear hh
              go_wp2_with fail
              exact ⟨⟨k + 1, by omega, by go_num, by rw [hst]; rfl, HW6.out⟩, by simp [intOf]; omega⟩
          · obtain rfl : k = E.length := by omega
            rw [HL.out]
            have HOTy := Lib.hid (ownsRow_keep HOT.out hbx)
            clear hbx
            obtain ⟨wy, hwy⟩ : ∃ wy : World, wy = wr := ⟨_, rfl⟩
            subst hwy
            go_wp2_with fail
            go_loopw [16, 17] (fun cf ck wx => ∃ (k : Nat) (b : Bool), k ≤ i ∧ ck = .int .i64 ((k : Nat) : Int) ∧ cf = .bool b ∧ Hid (b = Tm.fst M t k) ∧ Below wy.heap.size wy wx) (fun _ ck _ => i - (intOf ck).toNat)
            case atStart => exact ⟨0, true, by omega, rfl, rfl, Lib.hid rfl, Below.refl _ _⟩
            case round =>
              obtain ⟨k, b, hki, rfl, rfl, HFB, hbx⟩ := hrel
              have HB5 : Hid (Below w4.heap.size w4 wr) := Lib.hid (HB4.out.trans (hbx.mono HB4.out.size))
              have HBX := Lib.hid hbx
              have HOT3 := Lib.hid (ownsRow_keep HOTy.out hbx)
              obtain ⟨e0, e1, e2, e3⟩ := HEC.out wr HB5.out n hn
              obtain ⟨c0, c1⟩ := HIC.out wr HB5.out i hlt
              rw [← HID.out] at c0 c1
              clear hbx
              by_cases hk : k < i
              · obtain ⟨hkT', hsame, hdiff⟩ := HSM.out k hk
                obtain ⟨gT, oT, hAT, _⟩ := (Reads.of_own HOT3.out).plain (by omega) HT.out.len.symm
                have hRT := Reads.of_own HOT3.out
                subst hAT
                obtain ⟨f0, f1, f2, f3⟩ := hRT.ent HT.out.len.symm k hkT'
                have hkM : k < M.length := by omega
                obtain ⟨d0, d1⟩ := HIC.out wr HB5.out k hkM
                have hfy := Tm.fst_yes M t k hkM
                have hfn := Tm.fst_no M t k hkM
                obtain ⟨⟨jd, s'⟩, hs'⟩ : ∃ e, e = M[k]'hkM := ⟨_, rfl⟩
                obtain ⟨⟨i', o', l', r'⟩, hek⟩ : ∃ e, e = T[k]'hkT' := ⟨_, rfl⟩
                obtain ⟨⟨i2, o2, l2, r2⟩, hen⟩ : ∃ e, e = E[n]'hn := ⟨_, rfl⟩
                rw [← hs'] at d0 d1 hfy hfn hsame hdiff
                rw [← hek] at f0 f1 f2 f3 hsame hdiff
                rw [← hen] at e0 e1 e2 e3 hsame hdiff
                dsimp only at d0 d1 hfy hfn hsame hdiff f0 f1 f2 f3 e0 e1 e2 e3 c0 c1
                clear hRT hs' hek hen
                by_cases hst : s' = t
                · obtain ⟨q1, q2⟩ := hsame hst
                  have HFN := Lib.hid (hfn hst)
                  subst q1 q2 hst
                  clear hsame hdiff hfy hfn
                  cases b with
                  | true =>
                    go_wp2_with fail
                    go_quiet (fail)
                    all_goals
                      go_wp2_with fail
                      go_quiet (fail)
                      all_goals
                        go_wp2_with fail
                        exact ⟨⟨k + 1, false, by omega, by go_num, rfl, Lib.hid HFN.out.symm, bdraws HBX.out _⟩, by simp [intOf]; omega⟩
                  | false =>
                    go_wp2_with fail
                    go_quiet (fail)
                    all_goals
                      go_wp2_with fail
                      go_quiet (fail)
                      all_goals
                        go_wp2_with fail
                        exact ⟨⟨k + 1, false, by omega, by go_num, rfl, Lib.hid HFN.out.symm, bdraws HBX.out _⟩, by simp [intOf]; omega⟩
                · have hd1 := hdiff hst
                  have hb1 : (o' == o2) = false := by simpa using hd1
                  have hb2 : decide (o' = o2) = false := decide_eq_false hd1
                  have hb3 := str_ne hst
                  have HFN := Lib.hid (hfy hst)
                  clear hsame hdiff hfy hfn hst hd1
                  cases b with
                  | true =>
                    go_wp2_with fail
                    go_quiet (fail)
                    all_goals
                      go_wp2_with fail
                      go_quiet (fail)
                      all_goals
                        go_wp2_with fail
                        exact ⟨⟨k + 1, true, by omega, by go_num, rfl, Lib.hid (by rw [HFN.out]; exact HFB.out), bdraws HBX.out _⟩, by simp [intOf]; omega⟩
                  | false =>
                    go_wp2_with fail
                    go_quiet (fail)
                    all_goals
                      go_wp2_with fail
                      go_quiet (fail)
                      all_goals
                        go_wp2_with fail
                        exact ⟨⟨k + 1, false, by omega, by go_num, rfl, Lib.hid (by rw [HFN.out]; exact HFB.out), bdraws HBX.out _⟩, by simp [intOf]; omega⟩
              · obtain rfl : k = i := by omega
                have HSN2 : Hid (Tm.At M (Mg.rows M).1 (T ++ [E[n]'hn]) (k + 1)) := HSN
                obtain ⟨⟨i2, o2, l2, r2⟩, hen⟩ : ∃ e, e = E[n]'hn := ⟨_, rfl⟩
                rw [← hen] at e0 e1 e2 e3 HSN2
                dsimp only at c0 c1 e0 e1 e2 e3
                clear hen
                have hlt2 := HOT3.out.lt
                cases b with
                | true =>
                  have htt := HTT.out.1 HFB.out.symm
                  have hus : u + (t.size : Int) ≤ 3000 ∧ u + (t.size : Int) = (Tm.tot M (k + 1) : Int) := by
                    have h1 := HU.out; have h2 := HTT.out.2.2; have h3 := HSUM.out
                    rw [htt] at h2 ⊢
                    push_cast
                    omega
                  obtain ⟨hus1, hus2⟩ := hus
                  have HUS := Lib.hid hus2
                  clear htt hus2
                  go_upto_region 32 with (fail)
                  go_wp2_with (at_builtin; go_must (refine wpList_append_own _ rfl (.tmp 128) (.tmp 133) _ rfl w4.heap.size 43 i0 _ 4 24 Tryz.underlying35 hi iz0 iz1 iz2 rfl (by omega) _ k (ecells T) rfl (HOT3.out.alloc _) ⟨wr.heap.size, 0, none⟩ 1 1 [.int .u64 i2, .int .u64 o2, .int .u32 l2, .int .u32 r2] rfl rfl ?c1 ?c2 ?c3 ?c4 ?c5 ?_))
                  case c1 => exact blk_news4 (heap_alloc_new wr _)
                  case c2 => intro u hu; simp at hu; rcases hu with rfl | rfl | rfl | rfl <;> rfl
                  case c3 => simp only [maxLen]; omega
                  case c4 => omega
                  case c5 => have := HB5.out.size; simp; omega
                  intro v' w9 hown9 hgr9 _
                  have hb9 : Below w4.heap.size w4 w9 := (HB5.out.alloc HB5.out.size _).grown hgr9 (by have := HB5.out.size; simp; omega) (fun g hg => (hlt2 g hg).1)
                  have HO9 : Hid (w9.ownsRow w4.heap.size 43 4 v' (k + 1) (ecells (T ++ [(i2, o2, l2, r2)]))) := Lib.hid (by rw [ecells_append]; exact hown9)
                  clear hown9 hgr9 hlt2
                  go_wp2_with fail
                  exact ⟨⟨k + 1, T ++ [(i2, o2, l2, r2)], u + (t.size : Int), by omega, by go_num, rfl, HUS, by omega, hus1, HSN2, HO9, hb9⟩, by simp [intOf]; omega⟩
                | false =>
                  have htt := HTT.out.2.1 HFB.out.symm
                  have HUS : Hid (u = (Tm.tot M (k + 1) : Int)) := Lib.hid (by rw [htt]; exact HU.out)
                  clear htt
                  go_upto_region 32 with (fail)
                  go_wp2_with (at_builtin; go_must (refine wpList_append_own _ rfl (.tmp 128) (.tmp 133) _ rfl w4.heap.size 43 i0 _ 4 24 Tryz.underlying35 hi iz0 iz1 iz2 rfl (by omega) _ k (ecells T) rfl (HOT3.out.alloc _) ⟨wr.heap.size, 0, none⟩ 1 1 [.int .u64 i2, .int .u64 o2, .int .u32 l2, .int .u32 r2] rfl rfl ?c1 ?c2 ?c3 ?c4 ?c5 ?_))
                  case c1 => exact blk_news4 (heap_alloc_new wr _)
                  case c2 => intro u hu; simp at hu; rcases hu with rfl | rfl | rfl | rfl <;> rfl
                  case c3 => simp only [maxLen]; omega
                  case c4 => omega
                  case c5 => have := HB5.out.size; simp; omega
                  intro v' w9 hown9 hgr9 _
                  have hb9 : Below w4.heap.size w4 w9 := (HB5.out.alloc HB5.out.size _).grown hgr9 (by have := HB5.out.size; simp; omega) (fun g hg => (hlt2 g hg).1)
                  have HO9 : Hid (w9.ownsRow w4.heap.size 43 4 v' (k + 1) (ecells (T ++ [(i2, o2, l2, r2)]))) := Lib.hid (by rw [ecells_append]; exact hown9)
                  clear hown9 hgr9 hlt2
                  go_wp2_with fail
                  exact ⟨⟨k + 1, T ++ [(i2, o2, l2, r2)], u, by omega, by go_num, rfl, HUS, by omega, hu1, HSN2, HO9, hb9⟩, by simp [intOf]; omega⟩
      · obtain rfl : i = M.length := by omega
        have hud : u = (d.size : Int) := by rw [HU.out, HD.out]
        subst hud
        have HW5 := Lib.hid (HW4.out.trans (hbl.mono HW4.out.size))
        clear hbl hu0 hu1
        go_wp2_with fail
        refine (awake_any _).mono ?_; rintro e w6 ⟨rfl, hb6⟩
        have hw6 := bthen HW5.out hb6
        clear hb6
        go_wp2_with fail
        go_ret
        exact ⟨rfl, hw6⟩
end Go.Proofs.YtlfahmdndlmhpaaGreatDoor
