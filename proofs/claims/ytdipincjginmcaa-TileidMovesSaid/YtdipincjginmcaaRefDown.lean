/- The walk of the document's Down. -/
import Derived.Test.YtdipincjginmcaaKids
import Derived.Deep.DeepMust
import Derived.Deep.LoopGhost
namespace Go.Proofs.Ytdipincjginmcaa
open Go.RowKit

theorem refdown_not (tz tx ty : Int) (w : World) (h : Cv.dB tz tx ty = false) :
    Calls Try.prog 37 #[.agg #[.int .i64 tz, .int .i64 tx, .int .i64 ty]] w fun e w' => e = .returned (.tuple #[.slice none 0 0, .int .i64 (Cv.de tz tx ty)]) ∧ Below w.heap.size w w' := by
  rcases Bool.eq_false_or_eq_true (Cv.okB tz tx ty) with k | k
  · have hc : ¬ tz < 26 := by
      intro c
      unfold Cv.dB at h
      rw [k, decide_eq_true c] at h
      cases h
    have hz := (Cv.ok_in k).1
    have hde : Cv.de tz tx ty = 6 := by unfold Cv.de; rw [k, if_pos rfl, if_neg hc]
    have hpe := Cv.pe_ok k
    have h26 : (tz == 26) = true := beq_iff_eq.2 (by omega)
    rw [hde]
    clear hde k h hc hz
    go_enter Try.func37, Try.ntmps37
    go_wp2_with fail
    refine (refid_any _ _ _ _).mono ?_; rintro e w1 ⟨rfl, hb1⟩
    obtain ⟨hA, hs1, hw1⟩ := blk_one hb1
    obtain ⟨⟨a0, a1, a2⟩, _⟩ := blk_cells3 hA
    clear hA
    go_wp2_with fail
    go_ret2
    exact ⟨rfl, hw1⟩
  · have hde : Cv.de tz tx ty = Cv.pe tz tx ty := by unfold Cv.de; rw [k]; rfl
    have hpe : (Cv.pe tz tx ty != 0) = true := by rcases Cv.pe_not k with q | q <;> rw [q] <;> rfl
    rw [hde]
    clear hde k h
    go_enter Try.func37, Try.ntmps37
    go_wp2_with fail
    refine (refid_any _ _ _ _).mono ?_; rintro e w1 ⟨rfl, hb1⟩
    obtain ⟨hA, hs1, hw1⟩ := blk_one hb1
    go_wp2_with fail
    go_ret2
    exact ⟨rfl, hw1⟩

theorem own_form2 {w : World} {base E n : Nat} {v : Value} {xs : List Value} (h : w.ownsRow base E 3 v n xs) : (v = .slice none 0 0 ∧ n = 0) ∨ ∃ g cap : Nat, v = .slice (some ⟨g, 0, none⟩) n cap ∧ n ≤ cap ∧ cap ≤ maxLen := by
  rcases h.2 with ⟨hv, h0⟩ | ⟨g, cap, cur, hv, _, _, hc, hm, _⟩
  · exact Or.inl ⟨hv, h0⟩
  · exact Or.inr ⟨_, _, hv, hc, hm⟩

/-- what the outer loop keeps -/
def DownRel (w : World) (f : Nat → Nat) (R tz tx ty : Int) (i : Nat) (cv : Value) (wr : World) : Prop :=
  ∃ Q : List Nat, Cv.srt f i Q ∧ wr.ownsRow w.heap.size 42 3 cv i (tcells (Cv.qt R Q)) ∧ wr.heap[w.heap.size]? = some (.cells #[.int .i64 tz, .int .i64 tx, .int .i64 ty] 42 (0, 0))

set_option maxRecDepth 100000 in
set_option maxHeartbeats 4000000 in
theorem refdown_ok (tz tx ty : Int) (w : World) (h : Cv.okB tz tx ty = true) (c : tz < 26) :
    Calls Try.prog 37 #[.agg #[.int .i64 tz, .int .i64 tx, .int .i64 ty]] w fun e w' => DownPost 42 (Cv.dl tz tx ty) (Cv.de tz tx ty) w e w' := by
  obtain ⟨⟨hz0, hz1⟩, hx0, hxl, hy0, hyl⟩ := Cv.ok_in h
  have t26 := two26 tz.toNat (by omega)
  have hx1 : tx ≤ 67108864 := by omega
  have hy1 : ty ≤ 67108864 := by omega
  have hd : Cv.dl tz tx ty = Cv.tls (Cv.rf tz tx ty (tz + 1)) 4 := by unfold Cv.dl Cv.dB; rw [h, decide_eq_true c]; rfl
  have hde : Cv.de tz tx ty = 0 := by unfold Cv.de; rw [h, if_pos rfl, if_pos c]
  have hkid := fun i hi => Cv.kid_tile h c i hi
  have hfour := fun i hi => Cv.four_facts h c i hi
  obtain ⟨⟨r0, r1, _⟩, _⟩ := Cv.rng_zoom h (show tz ≤ tz + 1 by omega) (by omega)
  have hpe := Cv.pe_ok h
  have h26 : (tz == 26) = false := beq_eq_false_iff_ne.2 (by omega)
  rw [hd, hde]
  obtain ⟨R, hR⟩ : ∃ R, R = Cv.rf tz tx ty (tz + 1) := ⟨_, rfl⟩
  obtain ⟨f, hf⟩ : ∃ f : Nat → Nat, f = fun i => Cv.kq tz.toNat tx.toNat ty.toNat i := ⟨_, rfl⟩
  have hf4 : ∀ j, f j < 4 := by rw [hf]; exact fun j => Cv.kq_lt _ _ _ j
  have hfe : ∀ i, Cv.kq tz.toNat tx.toNat ty.toNat i = f i := by rw [hf]; exact fun _ => rfl
  have hfn : ∀ i j, i < 4 → j < 4 → i ≠ j → f i ≠ f j := by
    intro i j hi hj hne
    rw [hf]
    exact Cv.kq_ne tz.toNat tx.toNat ty.toNat i j (by omega) (by omega) hi hj hne
  simp only [← hR, hfe] at hkid hfour r0 r1 ⊢
  have HK := Lib.hid hkid
  have H4 := Lib.hid hfour
  have HF4 := Lib.hid hf4
  have HFN := Lib.hid hfn
  obtain ⟨i0, hi, iz0, iz1, iz2⟩ := info_parts rtile_info
  clear hd hde hkid hfour hR hf hfe hf4 hfn h hxl hyl t26
  go_enter Try.func37, Try.ntmps37
  go_wp2_with fail
  refine (refid_any _ _ _ _).mono ?_; rintro e w1 ⟨rfl, hb1⟩
  obtain ⟨hA, hs1, hw1⟩ := blk_one hb1
  obtain ⟨⟨a0, a1, a2⟩, _⟩ := blk_cells3 hA
  have HA := Lib.hid hA
  clear hA hb1
  go_wp2_with fail
  go_loopw [6, 7] (fun cv ci wr => ∃ i : Nat, i ≤ 4 ∧ ci = .int .i64 i ∧ DownRel w f R tz tx ty i cv wr ∧ Below w.heap.size w wr) (fun _ ci _ => 4 - (intOf ci).toNat)
  case atStart => exact ⟨0, by omega, rfl, ⟨[], ⟨rfl, List.Pairwise.nil, by simp⟩, World.ownsRow_nil _ _ _ _, HA.out⟩, hw1⟩
  case round =>
    obtain ⟨i, hi4, rfl, hrel, hbl⟩ := hrel
    clear a0 a1 a2 HA hw1 hs1
    by_cases hlt : i < 4
    · obtain ⟨Q, hQ, hO, hA⟩ := hrel
      rcases own_form2 hO with ⟨hv, hi0⟩ | ⟨g, cap, hv, hcap, hcm⟩
      · subst hv hi0
        obtain ⟨k1, k2, k3⟩ := HK.out 0 hlt
        simp at k2 k3 k1
        have k4 := Cv.pe_ok k1
        obtain ⟨⟨a0, a1, a2⟩, _⟩ := blk_cells3 hA
        have HQ := Lib.hid hQ
        have HO := Lib.hid hO
        have HA := Lib.hid hA
        have K3 := Lib.hid k3
        clear hQ hO hA k3 k1
        go_wp2_with fail
        refine (refid_any _ _ _ _).mono ?_; rintro e w2 ⟨rfl, hb2⟩
        have hw2 := bthen2 hb2 (hbl.alloc hbl.size (.cells #[.int .i64 (tz + 1), .int .i64 (2 * tx), .int .i64 (2 * ty)] 42))
        have HC2 := Lib.hid (blk_keep2 hb2 (heap_alloc_new wr (.cells #[.int .i64 (tz + 1), .int .i64 (2 * tx), .int .i64 (2 * ty)] 42)))
        have HO2 := Lib.hid (ownsRow_keep (World.ownsRow.alloc HO.out (.cells #[.int .i64 (tz + 1), .int .i64 (2 * tx), .int .i64 (2 * ty)] 42)) hb2)
        have HA2 := Lib.hid (blk_keep2 hb2 (blk_alloc HA.out (.cells #[.int .i64 (tz + 1), .int .i64 (2 * tx), .int .i64 (2 * ty)] 42)))
        have hs2 : wr.heap.size < w2.heap.size := blk_lt HC2.out
        clear hb2 HA HO a0 a1 a2 k4 hbl
        go_wp2_with fail
        obtain ⟨wo, rfl⟩ : ∃ wo : World, wo = wr := ⟨_, rfl⟩
        clear k2
        go_loopw [11] (fun cm wi => ∃ m : Nat, m ≤ 0 ∧ cm = .int .i64 m ∧ Hid (∀ j (hj : j < Q.length), m ≤ j → f 0 < Q[j]) ∧ Below w2.heap.size w2 wi) (fun cm _ => (intOf cm).toNat)
        case atStart => exact ⟨0, Nat.le_refl _, rfl, Lib.hid (fun j hj hij => by have := HQ.out.1; omega), Below.refl _ _⟩
        case round =>
          obtain ⟨m, hmi, rfl, hhi, hbi⟩ := hrel
          obtain rfl : m = 0 := by omega
          have hlo : Hid (∀ j (hj : j < Q.length), j < 0 → Q[j] < f 0) := Lib.hid (fun j hj hjm => absurd hjm (by omega))
          have hrd := (Reads.of_own HO2.out)
          have hr1 := (hrd.take_ hmi).below hbi
          rw [tcells_take, Cv.qt_take] at hr1
          have HR1 := Lib.hid hr1
          have HRD := Lib.hid hrd
          clear hrd hr1
          go_wp2_with (at_builtin; go_must (refine wpList_append_any _ rfl (.tmp 69) (.tmp 72) _ rfl w.heap.size 42 i0 _ 3 24 Try.underlying64 hi iz0 iz1 iz2 rfl (by omega) (.slice none 0 0) 0 [] rfl (World.ownsRow_nil _ _ _ _) w2.heap.size none 0 0 (tcells (Cv.qt R (Q.take 0))) rfl HR1.out (tcells_one _) ?nr1 ?nr2 ?nr3 ?_))
          case nr1 => simp only [maxLen]; omega
          case nr2 => omega
          case nr3 => have := hbi.size; have := hw2.size; omega
          intro v3 w3 hown3 hgr3 hat3
          have hb3 : Below w2.heap.size w2 w3 := hbi.grown hgr3 hbi.size (fun k hk => by cases hk)
          have hC3 := (hb3.block wo.heap.size hs2).trans HC2.out
          obtain ⟨⟨c0, c1, c2⟩, _⟩ := blk_cells3 hC3
          have hv3 : ∀ k, v3.ownBlock = some k → w2.heap.size ≤ k := by
            intro k hk
            rcases hat3 with e | e
            · rw [e] at hk; cases hk
            · rw [e] at hk; injection hk with hk; have := hbi.size; omega
          have hown3' : Hid (w3.ownsRow w.heap.size 42 3 v3 0 (tcells (Cv.qt R (Q.take 0)))) := Lib.hid (by simpa using hown3)
          have hw3 := hw2.trans (hb3.mono hw2.size)
          clear hC3 hat3 hgr3 hown3 HR1
          go_wp2_with (at_builtin; go_must (refine wpList_append_own_at _ rfl (.tmp 74) (.tmp 76) _ rfl w.heap.size 42 i0 _ 3 24 Try.underlying64 hi iz0 iz1 iz2 rfl (by omega) v3 0 _ rfl (World.ownsRow.alloc hown3'.out _) ⟨w3.heap.size, 0, none⟩ 1 1 [.int .i64 (tz + 1), .int .i64 (2 * tx), .int .i64 (2 * ty)] rfl rfl ?ns1 ?ns2 ?ns3 ?ns4 ?ns5 ?_))
          case ns1 => exact blk_news3 (heap_alloc_new w3 _)
          case ns2 => intro u hu; simp at hu; rcases hu with rfl | rfl | rfl <;> rfl
          case ns3 => simp only [maxLen]; omega
          case ns4 => omega
          case ns5 => have := hw3.size; simp; omega
          intro v4 w5 hown4 hgr4 _ hat4
          have hb5 : Below w2.heap.size w2 w5 := (hb3.alloc hb3.size _).grown hgr4 (by have := hb3.size; simp; omega) (fun k hk => hv3 k hk)
          have hv4 : ∀ k, v4.ownBlock = some k → w2.heap.size ≤ k := by
            intro k hk
            rcases hat4 with e | e
            · rw [e] at hk; exact hv3 k hk
            · rw [e] at hk; simp at hk; have := hb3.size; omega
          have hown4' : Hid (w5.ownsRow w.heap.size 42 3 v4 (0 + 1) (tcells (Cv.qt R (Q.take 0)) ++ [.int .i64 (tz + 1), .int .i64 (2 * tx), .int .i64 (2 * ty)])) := Lib.hid (by simpa using hown4)
          have hw5 := hw2.trans (hb5.mono hw2.size)
          clear hat4 hgr4 hown4 hown3' hw3 c0 c1 c2 hv3
          have hrx := HRD.out.below hb5
          have hrc := hrx.cut (k := 0) hmi (Nat.le_refl 0)
          rw [tcells_drop, Cv.qt_drop] at hrc
          have HRX := Lib.hid hrx
          have HRC := Lib.hid hrc
          clear hrx hrc
          go_wp2_with (at_builtin; go_must (refine wpList_append_any _ rfl (.tmp 78) (.tmp 81) _ rfl w.heap.size 42 i0 _ 3 24 Try.underlying64 hi iz0 iz1 iz2 rfl (by omega) v4 (0 + 1) _ rfl hown4'.out w2.heap.size _ _ _ (tcells (Cv.qt R (Q.drop 0))) rfl ?nt0 (tcells_one _) ?nt1 ?nt2 ?nt3 ?_))
          all_goals try (first
            | (simp only [maxLen]; omega)
            | omega
            | (have := hw5.size; omega)
            | (have h := HRX.out; simpa using h; done)
            | (have h := HRC.out; rw [if_pos (by omega)] at h; exact h)
            | (have h := HRC.out; rw [if_neg (by omega)] at h; simpa [Addr.add] using h)
            | (have h := HRC.out; rw [if_neg (by omega)] at h; simp only [Option.map_some, Addr.add] at h; rw [if_neg (by omega)] at h; simpa using h))
          all_goals
            intro v5 w6 hown5 hgr5 hat5
            have hb6 : Below w.heap.size w w6 := hw5.grown hgr5 hw5.size (fun k hk => Nat.le_trans hw2.size (hv4 k hk))
            have hb6' : Below w2.heap.size w2 w6 := hb5.grown hgr5 hb5.size hv4
            have hA6 := (hb6'.block _ (blk_lt HA2.out)).trans HA2.out
            have hO6 : w6.ownsRow w.heap.size 42 3 v5 (0 + 1) (tcells (Cv.qt R (Q.take 0 ++ [f 0] ++ Q.drop 0))) := by
              have e := Cv.qt_ins R Q 0 (f 0) _ K3.out
              rw [← e]
              have e2 : 0 + 1 + (0 - 0) = 0 + 1 := by omega
              have e3 : 1 + 0 = 0 + 1 := by omega
              first | (rw [e2] at hown5; simpa using hown5) | (rw [e3] at hown5; simpa using hown5) | simpa using hown5
            have hrel : Hid (DownRel w f R tz tx ty (0 + 1) v5 w6) := Lib.hid ⟨_, Cv.srt_ins f 0 0 Q HQ.out hmi hlo.out hhi.out, hO6, hA6⟩
            clear hown5 hgr5 hat5 hO6 hA6 hb6' hv4
            go_wp2_with fail
            exact ⟨⟨0 + 1, by omega, by first | go_num | (simp; done), hrel, hb6⟩, by simp [intOf]; try omega⟩
      · subst hv
        obtain ⟨k1, k2, k3⟩ := HK.out i hlt
        have k4 := Cv.pe_ok k1
        obtain ⟨⟨a0, a1, a2⟩, _⟩ := blk_cells3 hA
        have HQ := Lib.hid hQ
        have HO := Lib.hid hO
        have HA := Lib.hid hA
        have K3 := Lib.hid k3
        clear hQ hO hA k3 k1
        go_wp2_with fail
        refine (refid_any _ _ _ _).mono ?_; rintro e w2 ⟨rfl, hb2⟩
        have hw2 := bthen2 hb2 (hbl.alloc hbl.size (.cells #[.int .i64 (tz + 1), .int .i64 (2 * tx + (i : Int) % 2), .int .i64 (2 * ty + (i : Int) / 2)] 42))
        have HC2 := Lib.hid (blk_keep2 hb2 (heap_alloc_new wr (.cells #[.int .i64 (tz + 1), .int .i64 (2 * tx + (i : Int) % 2), .int .i64 (2 * ty + (i : Int) / 2)] 42)))
        have HO2 := Lib.hid (ownsRow_keep (World.ownsRow.alloc HO.out (.cells #[.int .i64 (tz + 1), .int .i64 (2 * tx + (i : Int) % 2), .int .i64 (2 * ty + (i : Int) / 2)] 42)) hb2)
        have HA2 := Lib.hid (blk_keep2 hb2 (blk_alloc HA.out (.cells #[.int .i64 (tz + 1), .int .i64 (2 * tx + (i : Int) % 2), .int .i64 (2 * ty + (i : Int) / 2)] 42)))
        have hs2 : wr.heap.size < w2.heap.size := blk_lt HC2.out
        clear hb2 HA HO a0 a1 a2 k4 hbl
        go_wp2_with fail
        obtain ⟨wo, rfl⟩ : ∃ wo : World, wo = wr := ⟨_, rfl⟩
        clear k2
        go_loopw [11] (fun cm wi => ∃ m : Nat, m ≤ i ∧ cm = .int .i64 m ∧ Hid (∀ j (hj : j < Q.length), m ≤ j → f i < Q[j]) ∧ Below w2.heap.size w2 wi) (fun cm _ => (intOf cm).toNat)
        case atStart => exact ⟨i, Nat.le_refl _, rfl, Lib.hid (fun j hj hij => by have := HQ.out.1; omega), Below.refl _ _⟩
        case round =>
          obtain ⟨m, hmi, rfl, hhi, hbi⟩ := hrel
          by_cases hm0 : 0 < m
          · have hQl : m - 1 < Q.length := by have := HQ.out.1; omega
            obtain ⟨q, hq⟩ : ∃ q, q = Q[m - 1]'hQl := ⟨_, rfl⟩
            obtain ⟨j, hji, hqj⟩ := HQ.out.2.2 q (by rw [hq]; exact List.getElem_mem _)
            have hq4 : q < 4 := by rw [hqj]; exact HF4.out j
            have hne : q ≠ f i := by rw [hqj]; exact HFN.out j i (by omega) hlt (by omega)
            have hT : TilesAt wr w.heap.size 42 (.slice (some ⟨g, 0, none⟩) i cap) (Cv.qt R Q) := by
              unfold TilesAt
              rw [Cv.qt_len, HQ.out.1]
              exact ownsRow_keep HO2.out hbi
            have hcell := TilesAt.cell hT (m - 1) (by rw [Cv.qt_len]; exact hQl)
            rw [Cv.qt_get, ← hq] at hcell
            obtain ⟨d0, d1, d2⟩ := hcell
            obtain ⟨f1, f2, _, _, f8⟩ := H4.out q hq4
            rw [f8] at f2
            simp only [Cv.tl] at d0 d1 d2
            rw [f8] at d0
            have HQM := Lib.hid hq
            clear hT hq hqj f1 f8
            by_cases hc : q < f i
            · have hlo : Hid (∀ j (hj : j < Q.length), j < m → Q[j] < f i) := Lib.hid (fun j hj hjm => by
                have hp := List.pairwise_iff_getElem.1 HQ.out.2.1
                rcases Nat.lt_or_ge j (m - 1) with hlt2 | hge2
                · have := hp j (m - 1) hj hQl hlt2
                  rw [← HQM.out] at this
                  omega
                · have : j = m - 1 := by omega
                  subst this
                  rw [← HQM.out]
                  exact hc)
              go_wp2_with fail
              refine (refid_any _ _ _ _).mono ?_; rintro e w4 ⟨rfl, hb4⟩
              have hbi4 := bthen hbi hb4
              clear d0 d1 d2
              have hrd := (Reads.of_own HO2.out)
              have hr1 := (hrd.take_ hmi).below hbi4
              rw [tcells_take, Cv.qt_take] at hr1
              have HR1 := Lib.hid hr1
              have HRD := Lib.hid hrd
              clear hrd hr1
              go_wp2_with (at_builtin; go_must (refine wpList_append_any _ rfl (.tmp 69) (.tmp 72) _ rfl w.heap.size 42 i0 _ 3 24 Try.underlying64 hi iz0 iz1 iz2 rfl (by omega) (.slice none 0 0) 0 [] rfl (World.ownsRow_nil _ _ _ _) w2.heap.size (some ⟨g, 0, none⟩) m cap (tcells (Cv.qt R (Q.take m))) rfl HR1.out (tcells_one _) ?br1 ?br2 ?br3 ?_))
              case br1 => simp only [maxLen]; omega
              case br2 => omega
              case br3 => have := hbi4.size; have := hw2.size; omega
              intro v3 w3 hown3 hgr3 hat3
              have hb3 : Below w2.heap.size w2 w3 := hbi4.grown hgr3 hbi4.size (fun k hk => by cases hk)
              have hC3 := (hb3.block wo.heap.size hs2).trans HC2.out
              obtain ⟨⟨c0, c1, c2⟩, _⟩ := blk_cells3 hC3
              have hv3 : ∀ k, v3.ownBlock = some k → w2.heap.size ≤ k := by
                intro k hk
                rcases hat3 with e | e
                · rw [e] at hk; cases hk
                · rw [e] at hk; injection hk with hk; have := hbi4.size; omega
              have hown3' : Hid (w3.ownsRow w.heap.size 42 3 v3 m (tcells (Cv.qt R (Q.take m)))) := Lib.hid (by simpa using hown3)
              have hw3 := hw2.trans (hb3.mono hw2.size)
              clear hC3 hat3 hgr3 hown3 HR1
              go_wp2_with (at_builtin; go_must (refine wpList_append_own_at _ rfl (.tmp 74) (.tmp 76) _ rfl w.heap.size 42 i0 _ 3 24 Try.underlying64 hi iz0 iz1 iz2 rfl (by omega) v3 m _ rfl (World.ownsRow.alloc hown3'.out _) ⟨w3.heap.size, 0, none⟩ 1 1 [.int .i64 (tz + 1), .int .i64 (2 * tx + (i : Int) % 2), .int .i64 (2 * ty + (i : Int) / 2)] rfl rfl ?bs1 ?bs2 ?bs3 ?bs4 ?bs5 ?_))
              case bs1 => exact blk_news3 (heap_alloc_new w3 _)
              case bs2 => intro u hu; simp at hu; rcases hu with rfl | rfl | rfl <;> rfl
              case bs3 => simp only [maxLen]; omega
              case bs4 => omega
              case bs5 => have := hw3.size; simp; omega
              intro v4 w5 hown4 hgr4 _ hat4
              have hb5 : Below w2.heap.size w2 w5 := (hb3.alloc hb3.size _).grown hgr4 (by have := hb3.size; simp; omega) (fun k hk => hv3 k hk)
              have hv4 : ∀ k, v4.ownBlock = some k → w2.heap.size ≤ k := by
                intro k hk
                rcases hat4 with e | e
                · rw [e] at hk; exact hv3 k hk
                · rw [e] at hk; simp at hk; have := hb3.size; omega
              have hown4' : Hid (w5.ownsRow w.heap.size 42 3 v4 (m + 1) (tcells (Cv.qt R (Q.take m)) ++ [.int .i64 (tz + 1), .int .i64 (2 * tx + (i : Int) % 2), .int .i64 (2 * ty + (i : Int) / 2)])) := Lib.hid (by simpa using hown4)
              have hw5 := hw2.trans (hb5.mono hw2.size)
              clear hat4 hgr4 hown4 hown3' hw3 c0 c1 c2 hv3
              have hrx := HRD.out.below hb5
              have hrc := hrx.cut (k := m) hmi hcap
              rw [tcells_drop, Cv.qt_drop] at hrc
              have HRX := Lib.hid hrx
              have HRC := Lib.hid hrc
              clear hrx hrc
              go_wp2_with (at_builtin; go_must (refine wpList_append_any _ rfl (.tmp 78) (.tmp 81) _ rfl w.heap.size 42 i0 _ 3 24 Try.underlying64 hi iz0 iz1 iz2 rfl (by omega) v4 (m + 1) _ rfl hown4'.out w2.heap.size _ _ _ (tcells (Cv.qt R (Q.drop m))) rfl ?bt0 (tcells_one _) ?bt1 ?bt2 ?bt3 ?_))
              all_goals try (first
                | (simp only [maxLen]; omega)
                | omega
                | (have := hw5.size; omega)
                | (have h := HRX.out; simpa using h; done)
                | (have h := HRC.out; rw [if_pos (by omega)] at h; exact h)
                | (have h := HRC.out; rw [if_neg (by omega)] at h; simpa [Addr.add] using h)
                | (have h := HRC.out; rw [if_neg (by omega)] at h; simp only [Option.map_some, Addr.add] at h; rw [if_neg (by omega)] at h; simpa using h))
              all_goals
                intro v5 w6 hown5 hgr5 hat5
                have hb6 : Below w.heap.size w w6 := hw5.grown hgr5 hw5.size (fun k hk => Nat.le_trans hw2.size (hv4 k hk))
                have hb6' : Below w2.heap.size w2 w6 := hb5.grown hgr5 hb5.size hv4
                have hA6 := (hb6'.block _ (blk_lt HA2.out)).trans HA2.out
                have hO6 : w6.ownsRow w.heap.size 42 3 v5 (i + 1) (tcells (Cv.qt R (Q.take m ++ [f i] ++ Q.drop m))) := by
                  have e := Cv.qt_ins R Q m (f i) _ K3.out
                  rw [← e]
                  have e2 : m + 1 + (i - m) = i + 1 := by omega
                  have e3 : 1 + i = i + 1 := by omega
                  first | (rw [e2] at hown5; simpa using hown5) | (rw [e3] at hown5; simpa using hown5) | simpa using hown5
                have hrel : Hid (DownRel w f R tz tx ty (i + 1) v5 w6) := Lib.hid ⟨_, Cv.srt_ins f i m Q HQ.out hmi hlo.out hhi.out, hO6, hA6⟩
                clear hown5 hgr5 hat5 hO6 hA6 hb6' hv4
                go_wp2_with fail
                exact ⟨⟨i + 1, by omega, by first | go_num | (simp; done), hrel, hb6⟩, by simp [intOf]; try omega⟩
            · have hgt : f i < q := by omega
              have hhi2 : Hid (∀ j (hj : j < Q.length), m - 1 ≤ j → f i < Q[j]) := Lib.hid (fun j hj hmj => by
                rcases Nat.lt_or_ge j m with hjm | hjm
                · have : j = m - 1 := by omega
                  subst this
                  rw [← HQM.out]
                  exact hgt
                · exact hhi.out j hj hjm)
              go_wp2_with fail
              refine (refid_any _ _ _ _).mono ?_; rintro e w4 ⟨rfl, hb4⟩
              have hbi4 := bthen hbi hb4
              clear d0 d1 d2
              go_wp2_with fail
              exact ⟨⟨m - 1, by omega, congrArg (Value.int .i64) (by omega), hhi2, hbi4⟩, by simp [intOf]; omega⟩
          · obtain rfl : m = 0 := by omega
            have hlo : Hid (∀ j (hj : j < Q.length), j < 0 → Q[j] < f i) := Lib.hid (fun j hj hjm => absurd hjm (by omega))
            have hrd := (Reads.of_own HO2.out)
            have hr1 := (hrd.take_ hmi).below hbi
            rw [tcells_take, Cv.qt_take] at hr1
            have HR1 := Lib.hid hr1
            have HRD := Lib.hid hrd
            clear hrd hr1
            go_wp2_with (at_builtin; go_must (refine wpList_append_any _ rfl (.tmp 69) (.tmp 72) _ rfl w.heap.size 42 i0 _ 3 24 Try.underlying64 hi iz0 iz1 iz2 rfl (by omega) (.slice none 0 0) 0 [] rfl (World.ownsRow_nil _ _ _ _) w2.heap.size (some ⟨g, 0, none⟩) 0 cap (tcells (Cv.qt R (Q.take 0))) rfl HR1.out (tcells_one _) ?ar1 ?ar2 ?ar3 ?_))
            case ar1 => simp only [maxLen]; omega
            case ar2 => omega
            case ar3 => have := hbi.size; have := hw2.size; omega
            intro v3 w3 hown3 hgr3 hat3
            have hb3 : Below w2.heap.size w2 w3 := hbi.grown hgr3 hbi.size (fun k hk => by cases hk)
            have hC3 := (hb3.block wo.heap.size hs2).trans HC2.out
            obtain ⟨⟨c0, c1, c2⟩, _⟩ := blk_cells3 hC3
            have hv3 : ∀ k, v3.ownBlock = some k → w2.heap.size ≤ k := by
              intro k hk
              rcases hat3 with e | e
              · rw [e] at hk; cases hk
              · rw [e] at hk; injection hk with hk; have := hbi.size; omega
            have hown3' : Hid (w3.ownsRow w.heap.size 42 3 v3 0 (tcells (Cv.qt R (Q.take 0)))) := Lib.hid (by simpa using hown3)
            have hw3 := hw2.trans (hb3.mono hw2.size)
            clear hC3 hat3 hgr3 hown3 HR1
            go_wp2_with (at_builtin; go_must (refine wpList_append_own_at _ rfl (.tmp 74) (.tmp 76) _ rfl w.heap.size 42 i0 _ 3 24 Try.underlying64 hi iz0 iz1 iz2 rfl (by omega) v3 0 _ rfl (World.ownsRow.alloc hown3'.out _) ⟨w3.heap.size, 0, none⟩ 1 1 [.int .i64 (tz + 1), .int .i64 (2 * tx + (i : Int) % 2), .int .i64 (2 * ty + (i : Int) / 2)] rfl rfl ?as1 ?as2 ?as3 ?as4 ?as5 ?_))
            case as1 => exact blk_news3 (heap_alloc_new w3 _)
            case as2 => intro u hu; simp at hu; rcases hu with rfl | rfl | rfl <;> rfl
            case as3 => simp only [maxLen]; omega
            case as4 => omega
            case as5 => have := hw3.size; simp; omega
            intro v4 w5 hown4 hgr4 _ hat4
            have hb5 : Below w2.heap.size w2 w5 := (hb3.alloc hb3.size _).grown hgr4 (by have := hb3.size; simp; omega) (fun k hk => hv3 k hk)
            have hv4 : ∀ k, v4.ownBlock = some k → w2.heap.size ≤ k := by
              intro k hk
              rcases hat4 with e | e
              · rw [e] at hk; exact hv3 k hk
              · rw [e] at hk; simp at hk; have := hb3.size; omega
            have hown4' : Hid (w5.ownsRow w.heap.size 42 3 v4 (0 + 1) (tcells (Cv.qt R (Q.take 0)) ++ [.int .i64 (tz + 1), .int .i64 (2 * tx + (i : Int) % 2), .int .i64 (2 * ty + (i : Int) / 2)])) := Lib.hid (by simpa using hown4)
            have hw5 := hw2.trans (hb5.mono hw2.size)
            clear hat4 hgr4 hown4 hown3' hw3 c0 c1 c2 hv3
            have hrx := HRD.out.below hb5
            have hrc := hrx.cut (k := 0) hmi hcap
            rw [tcells_drop, Cv.qt_drop] at hrc
            have HRX := Lib.hid hrx
            have HRC := Lib.hid hrc
            clear hrx hrc
            go_wp2_with (at_builtin; go_must (refine wpList_append_any _ rfl (.tmp 78) (.tmp 81) _ rfl w.heap.size 42 i0 _ 3 24 Try.underlying64 hi iz0 iz1 iz2 rfl (by omega) v4 (0 + 1) _ rfl hown4'.out w2.heap.size _ _ _ (tcells (Cv.qt R (Q.drop 0))) rfl ?at0 (tcells_one _) ?at1 ?at2 ?at3 ?_))
            all_goals try (first
              | (simp only [maxLen]; omega)
              | omega
              | (have := hw5.size; omega)
              | (have h := HRX.out; simpa using h; done)
              | (have h := HRC.out; rw [if_pos (by omega)] at h; exact h)
              | (have h := HRC.out; rw [if_neg (by omega)] at h; simpa [Addr.add] using h)
              | (have h := HRC.out; rw [if_neg (by omega)] at h; simp only [Option.map_some, Addr.add] at h; rw [if_neg (by omega)] at h; simpa using h))
            all_goals
              intro v5 w6 hown5 hgr5 hat5
              have hb6 : Below w.heap.size w w6 := hw5.grown hgr5 hw5.size (fun k hk => Nat.le_trans hw2.size (hv4 k hk))
              have hb6' : Below w2.heap.size w2 w6 := hb5.grown hgr5 hb5.size hv4
              have hA6 := (hb6'.block _ (blk_lt HA2.out)).trans HA2.out
              have hO6 : w6.ownsRow w.heap.size 42 3 v5 (i + 1) (tcells (Cv.qt R (Q.take 0 ++ [f i] ++ Q.drop 0))) := by
                have e := Cv.qt_ins R Q 0 (f i) _ K3.out
                rw [← e]
                have e2 : 0 + 1 + (i - 0) = i + 1 := by omega
                have e3 : 1 + i = i + 1 := by omega
                first | (rw [e2] at hown5; simpa using hown5) | (rw [e3] at hown5; simpa using hown5) | simpa using hown5
              have hrel : Hid (DownRel w f R tz tx ty (i + 1) v5 w6) := Lib.hid ⟨_, Cv.srt_ins f i 0 Q HQ.out hmi hlo.out hhi.out, hO6, hA6⟩
              clear hown5 hgr5 hat5 hO6 hA6 hb6' hv4
              go_wp2_with fail
              exact ⟨⟨i + 1, by omega, by first | go_num | (simp; done), hrel, hb6⟩, by simp [intOf]; try omega⟩
    · have hi4' : i = 4 := by omega
      subst hi4'
      obtain ⟨Q, hQ, hO, hA⟩ := hrel
      have hQ4 := Cv.srt_four f HF4.out Q hQ
      subst hQ4
      rw [Cv.qt_four] at hO
      have HT : Hid (TilesAt wr w.heap.size 42 _ (Cv.tls R 4)) := Lib.hid hO
      clear hQ hO hA
      go_wp2_with fail
      go_ret2
      exact ⟨_, rfl, HT.out, hbl⟩

theorem refdown_any (tz tx ty : Int) (w : World) :
    Calls Try.prog 37 #[.agg #[.int .i64 tz, .int .i64 tx, .int .i64 ty]] w fun e w' => DownPost 42 (Cv.dl tz tx ty) (Cv.de tz tx ty) w e w' := by
  rcases Bool.eq_false_or_eq_true (Cv.dB tz tx ty) with h | h
  · have h' := h
    unfold Cv.dB at h'
    rw [Bool.and_eq_true] at h'
    exact refdown_ok tz tx ty w h'.1 (of_decide_eq_true h'.2)
  · have e : Cv.dl tz tx ty = [] := by unfold Cv.dl; rw [h]; rfl
    rw [e]
    exact (refdown_not tz tx ty w h).mono fun _ _ hh => ⟨_, hh.1, World.ownsRow_nil _ _ _ _, hh.2⟩

end Go.Proofs.Ytdipincjginmcaa
