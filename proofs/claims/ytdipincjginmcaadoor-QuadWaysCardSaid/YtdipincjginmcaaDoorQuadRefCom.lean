/- The walk of the document's Common. -/
import Derived.Test.YtdipincjginmcaaDoorQuadRefWay
namespace Go.Proofs.YtdipincjginmcaaDoor
open Go.RowKit

theorem all_snoc' (f : Tl → Bool) (L : List Tl) (k : Nat) (hk : k < L.length) : (L.take (k + 1)).all f = ((L.take k).all f && f (L[k]'hk)) := by
  rw [List.take_succ_eq_append_getElem hk, List.all_append]; simp
theorem st3' {a w8 : World} {d : Nat} {v0 v1 v2 : Value} (hw : Below a.heap.size a w8) (hd : a.heap.size ≤ d) : Below a.heap.size a (((w8.setCell ⟨d, 0, none⟩ v0).setCell ⟨d, 1, none⟩ v1).setCell ⟨d, 2, none⟩ v2) := ((hw.setCell hd _).setCell hd _).setCell hd _
/-- the tiles over all among those over the first one: just those up to one of them, which is the least one -/
theorem com_way {L : List Tl} (h : Qc.cb L = true) (zn xn yn : Nat) (h0 : 0 < L.length) (e0 : L[0]'h0 = ((zn : Int), (xn : Int), (yn : Int))) :
    ∃ M, M ≤ zn ∧ Qc.ct L = Qw.at zn xn yn M ∧ ∀ j, j ≤ zn → (L.all fun t => Cv.ovB (Qw.at zn xn yn j).1 (Qw.at zn xn yn j).2.1 (Qw.at zn xn yn j).2.2 t.1 t.2.1 t.2.2) = decide (j ≤ M) := by
  obtain ⟨_, hk⟩ := Qc.cb_in h
  have hok := hk 0 h0
  rw [e0] at hok
  obtain ⟨⟨hz0, hz1⟩, hx0, hx1, hy0, hy1⟩ := Cv.ok_in (show Cv.okB (zn : Int) (xn : Int) (yn : Int) = true from hok)
  simp only [Int.toNat_natCast] at hx1 hy1
  have hzz : zn ≤ 26 := by omega
  have hxx : xn < 2 ^ zn := by omega
  have hyy : yn < 2 ^ zn := by omega
  have hp := Qc.pre_prefix L L.length (Nat.le_refl _) 0 h0 h0
  rw [e0] at hp
  have hkey : Qc.key ((zn : Int), (xn : Int), (yn : Int)) = Qk.kd zn xn yn := by unfold Qc.key; simp
  rw [hkey] at hp
  have hMz : (Qc.pre L L.length).length ≤ zn := by have := hp.length_le; rwa [Qk.kd_len] at this
  obtain ⟨ho, hkk⟩ := Qw.at_in hzz hxx hyy hMz
  rw [← List.prefix_iff_eq_take.1 hp] at hkk
  obtain ⟨hco, hck⟩ := Qc.ct_in h
  have hct : Qc.ct L = Qw.at zn xn yn (Qc.pre L L.length).length := by
    rw [key_tile hco, hck, key_tile ho, hkk]
  refine ⟨_, hMz, hct, fun j hj => ?_⟩
  obtain ⟨hjo, hjk⟩ := Qw.at_in hzz hxx hyy hj
  rw [Bool.eq_iff_iff, List.all_eq_true, decide_eq_true_eq]
  constructor
  · intro ha
    have hm := Qc.ct_most h (fun i hi => ha _ (List.getElem_mem hi))
    have h2 := (ov_key (by exact hjo) (by exact hco)).1 hm
    have h3 := h2.length_le
    rw [show Qc.key ((Qw.at zn xn yn j).1, (Qw.at zn xn yn j).2.1, (Qw.at zn xn yn j).2.2) = Qc.key (Qw.at zn xn yn j) from rfl, hjk, List.length_take, Qk.kd_len, Nat.min_eq_left hj] at h3
    rw [show Qc.key ((Qc.ct L).1, (Qc.ct L).2.1, (Qc.ct L).2.2) = Qc.key (Qc.ct L) from rfl, hck] at h3
    exact h3
  · intro hjM t ht
    obtain ⟨i, hi, rfl⟩ := List.mem_iff_getElem.1 ht
    rw [ov_key (by exact hjo) (by exact hk i hi)]
    show Qc.key (Qw.at zn xn yn j) <+: Qc.key (L[i]'hi)
    have h1 := Qw.at_over hzz hxx hyy hjM hMz
    rw [← hct] at h1
    exact h1.trans ((ov_key (by exact hco) (by exact hk i hi)).1 (Qc.ct_over h i hi))

set_option maxRecDepth 100000 in
set_option maxHeartbeats 4000000 in
theorem refcommon_any (A : Option Addr) (n cap : Nat) (L : List Tl) (B : Nat) (w : World) (hr : Reads w B 3 A n (tcells L)) (hn : n = L.length) (hB : B ≤ w.heap.size) (hm : n ≤ 1000) :
    Calls Tryd.prog 18 #[.slice A n cap] w fun e w' => ComR L e ∧ Below w.heap.size w w' := by
  have HR := Lib.hid hr
  have HN := Lib.hid hn
  clear hr hn
  have HB := Lib.hid (heap_alloc_new w (.cells #[.int .i64 0, .int .i64 0, .int .i64 0] 23))
  have hw : Below w.heap.size w (w.alloc (.cells #[.int .i64 0, .int .i64 0, .int .i64 0] 23)) := (Below.refl _ _).alloc (Nat.le_refl _) _
  rcases Nat.eq_zero_or_pos n with hn0 | hn0
  · have HNO := Lib.hid (ComR.no (L := L) (by unfold Qc.cb; rw [← HN.out, hn0]; rfl))
    subst hn0
    obtain ⟨⟨b0, b1, b2⟩, f0, f1, f2⟩ := blk_cells3 HB.out
    go_enter Tryd.func18, Tryd.ntmps18
    go_wp2_with fail
    exact bodyPost_ret (v := .tuple #[.agg #[.int .i64 0, .int .i64 0, .int .i64 0], .bool false]) (by simp [results, Tryd.results18, go_sem, b0, b1, b2]) rfl ⟨HNO.out, (by repeat (first | with_reducible exact Below.refl _ _ | with_reducible assumption | with_reducible refine Below.setCell ?_ (by first | (simp; done) | omega | (simp; omega)) _ | with_reducible refine Below.alloc ?_ (by first | exact Nat.le_refl _ | (simp; done) | (simp; omega) | omega | (have := hw.size; omega)) _))⟩
  · have hne : ((n : Int) == 0) = false := by rw [beq_eq_false_iff_ne]; omega
    go_enter Tryd.func18, Tryd.ntmps18
    go_wp2_with fail
    go_loopw [4] (fun ci wr => ∃ k : Nat, k ≤ n ∧ ci = .int .i64 k ∧ Hid (∀ j (hj : j < L.length), j < k → Qc.ok (L[j]'hj) = true) ∧ Hid (wr.heap[w.heap.size]? = some (.cells #[.int .i64 0, .int .i64 0, .int .i64 0] 23 (0, 0))) ∧ Below w.heap.size w wr) (fun ci _ => n - (intOf ci).toNat)
    case atStart => exact ⟨0, by omega, rfl, Lib.hid (fun j _ hj => by omega), HB, hw⟩
    case round =>
      clear HB hw
      obtain ⟨k, hk, rfl, HOK, HB, hw⟩ := hrel
      by_cases hlt : k < n
      · have hlt' : k < L.length := by rw [← HN.out]; exact hlt
        obtain ⟨g, off, hA, hgB⟩ := HR.out.tplain (by omega) HN.out
        have HR' := HR.out
        rw [hA] at HR'
        subst hA
        obtain ⟨c0, c1, c2⟩ := ((HR'.more hB).below hw).tile HN.out k hlt'
        obtain ⟨t, ht⟩ : ∃ t, t = L[k]'hlt' := ⟨_, rfl⟩
        rw [← ht] at c0 c1 c2
        have HT := Lib.hid ht
        obtain ⟨z, x, y⟩ := t
        clear ht HR'
        rcases Bool.eq_false_or_eq_true (Cv.okB z x y) with h | h
        · have HPE := Lib.hid (Cv.pe_ok h)
          have HOK2 : Hid (∀ j (hj : j < L.length), j < k + 1 → Qc.ok (L[j]'hj) = true) := Lib.hid (fun j hj hjk => by
            by_cases e : j = k
            · subst e; rw [← HT.out]; exact h
            · exact HOK.out j hj (by omega))
          clear h
          go_wp2_with fail
          refine (refid_any _ _ _ _).mono ?_; rintro e w1 ⟨he, hb⟩
          rw [HPE.out] at he
          subst he
          replace HB := Lib.hid (blk_keep2 hb HB.out)
          replace hw := bthen2 hb hw
          clear hb c0 c1 c2
          go_wp2_with fail
          exact ⟨⟨k + 1, by omega, by go_num, HOK2, HB, hw⟩, by simp [intOf]; omega⟩
        · have hpe : (Cv.pe z x y != 0) = true := by rcases Cv.pe_not h with q | q <;> rw [q] <;> rfl
          have HNO := Lib.hid (ComR.no (Qc.cb_no hlt' (by rw [← HT.out]; exact h)))
          clear h
          go_wp2_with fail
          refine (refid_any _ _ _ _).mono ?_; rintro e w1 ⟨rfl, hb⟩
          replace HB := Lib.hid (blk_keep2 hb HB.out)
          replace hw := bthen2 hb hw
          clear hb c0 c1 c2
          obtain ⟨⟨b0, b1, b2⟩, f0, f1, f2⟩ := blk_cells3 HB.out
          go_wp2_with fail
          exact bodyPost_ret (v := .tuple #[.agg #[.int .i64 0, .int .i64 0, .int .i64 0], .bool false]) (by simp [results, Tryd.results18, go_sem, b0, b1, b2]) rfl ⟨HNO.out, (by repeat (first | with_reducible exact Below.refl _ _ | with_reducible assumption | with_reducible refine Below.setCell ?_ (by first | (simp; done) | omega | (simp; omega)) _ | with_reducible refine Below.alloc ?_ (by first | exact Nat.le_refl _ | (simp; done) | (simp; omega) | omega | (have := hw.size; omega)) _))⟩
      · obtain rfl : k = n := by omega
        have hcb : Qc.cb L = true := Qc.cb_yes (by rw [← HN.out]; exact hn0) (fun j hj => HOK.out j hj (by rw [HN.out]; exact hj))
        have h0 : 0 < L.length := by rw [← HN.out]; exact hn0
        obtain ⟨g, off, hA, hgB⟩ := HR.out.tplain (by omega) HN.out
        have HR' := HR.out
        rw [hA] at HR'
        subst hA
        have hlk := fun (i : Nat) (hi : i < L.length) (w' : World) (hb : Below w.heap.size w w') => ((HR'.more hB).below hb).tile HN.out i hi
        have hrow : Qc.ok (L[0]'h0) = true := HOK.out 0 h0 (by omega)
        obtain ⟨t, ht⟩ : ∃ t, t = L[0]'h0 := ⟨_, rfl⟩
        have hc := hlk 0 h0 _ hw
        rw [← ht] at hrow hc
        obtain ⟨z1, x1, y1⟩ := t
        obtain ⟨⟨hz0, hz1⟩, hx0, hx1, hy0, hy1⟩ := Cv.ok_in (show Cv.okB z1 x1 y1 = true from hrow)
        have hway : Qw.way z1 x1 y1 = Qw.upto z1.toNat x1.toNat y1.toNat (z1.toNat + 1) := by unfold Qw.way; rw [if_pos (show Cv.okB z1 x1 y1 = true from hrow)]
        obtain ⟨zn, hzn⟩ : ∃ zn, zn = z1.toNat := ⟨_, rfl⟩
        obtain ⟨xn, hxn⟩ : ∃ xn, xn = x1.toNat := ⟨_, rfl⟩
        obtain ⟨yn, hyn⟩ : ∃ yn, yn = y1.toNat := ⟨_, rfl⟩
        rw [← hzn, ← hxn, ← hyn] at hway
        have ez : z1 = (zn : Int) := by omega
        have ex : x1 = (xn : Int) := by omega
        have ey : y1 = (yn : Int) := by omega
        have hzz : zn ≤ 26 := by omega
        obtain ⟨M, hMz, hct, hall⟩ := com_way hcb zn xn yn h0 (by rw [← ht, ez, ex, ey])
        have HMZ := Lib.hid hMz
        have HCT := Lib.hid hct
        have HALL := Lib.hid hall
        have HCB := Lib.hid hcb
        have HLKS := Lib.hid hlk
        clear HR' hlk hrow hz0 hz1 hx0 hx1 hy0 hy1 hzn hxn hyn ez ex ey hcb hMz hct hall ht
        simp only [Nat.zero_mul, Nat.add_zero] at hc
        obtain ⟨c0, c1, c2⟩ := hc
        have hnk : (0 : Int) < (k : Int) := by omega
        go_wp2_with fail
        refine (refway_any _ _ _ _).mono ?_; rintro e w5 ⟨v5, rfl, hT5, hb⟩
        replace HB := Lib.hid (blk_keep2 hb HB.out)
        replace hw := bthen2 hb hw
        clear hb c0 c1 c2
        rw [hway] at hT5
        obtain ⟨g5, c5, rfl, hg5, hc5⟩ := hT5.formed (by rw [Qw.upto_len]; omega)
        have hcell : Hid (∀ k, k ≤ zn → ∀ w', Below w5.heap.size w5 w' → w'.cell? ⟨g5, k * 3, none⟩ = some (.int .i64 (k : Int)) ∧ w'.cell? ⟨g5, k * 3 + 1, none⟩ = some (.int .i64 (Qw.at zn xn yn k).2.1) ∧ w'.cell? ⟨g5, k * 3 + 2, none⟩ = some (.int .i64 (Qw.at zn xn yn k).2.2)) := Lib.hid (fun k hk w' hb => by
          have hkl : k < (Qw.upto zn xn yn (zn + 1)).length := by rw [Qw.upto_len]; omega
          obtain ⟨q0, q1, q2⟩ := tcells_get (Qw.upto zn xn yn (zn + 1)) k hkl
          have hget : (Qw.upto zn xn yn (zn + 1))[k]'hkl = Qw.at zn xn yn k := by simp [Qw.upto]
          rw [hget] at q0 q1 q2
          rw [Qw.upto_len] at hc5
          have cc := fun o => hb.cell (p := (⟨g5, o, none⟩ : Addr)) hg5
          exact ⟨(cc _).trans ((hc5 (k * 3) (by omega)).trans q0), (cc _).trans ((hc5 (k * 3 + 1) (by omega)).trans q1), (cc _).trans ((hc5 (k * 3 + 2) (by omega)).trans q2)⟩)
        rw [Qw.upto_len]
        obtain ⟨m0, m1, m2⟩ := hcell.out 0 (by omega) _ (Below.refl _ _)
        obtain ⟨q, hq⟩ : ∃ q, q = Qw.at zn xn yn (min (0 - 1) M) := ⟨_, rfl⟩
        have hq0 : q = ((0 : Int), (Qw.at zn xn yn 0).2.1, (Qw.at zn xn yn 0).2.2) := by rw [hq, show min (0 - 1) M = 0 by omega]; rfl
        obtain ⟨bz, bx, by_⟩ := q
        simp only [Prod.mk.injEq] at hq0
        rw [← hq0.2.1] at m1
        rw [← hq0.2.2] at m2
        replace m0 : w5.cell? ⟨g5, 0, none⟩ = some (.int .i64 0) := m0
        replace m1 : w5.cell? ⟨g5, 1, none⟩ = some (.int .i64 bx) := by simpa only [Nat.zero_mul, Nat.zero_add] using m1
        replace m2 : w5.cell? ⟨g5, 2, none⟩ = some (.int .i64 by_) := by simpa only [Nat.zero_mul, Nat.zero_add] using m2
        obtain ⟨rfl, hq1, hq2⟩ := hq0
        clear hq1 hq2
        have HQ := Lib.hid hq
        have hzp : (0 : Int) < (zn : Int) + 1 := by omega
        clear hq hT5 hc5 hway
        go_wp2_with fail
        have HBS := Lib.hid (heap_alloc_new w5 (.cells #[.int .i64 0, .int .i64 bx, .int .i64 by_] 23))
        have hw' := bl_al hw (.cells #[.int .i64 0, .int .i64 bx, .int .i64 by_] 23)
        have hw5' := bl_al (Below.refl w5.heap.size w5) (.cells #[.int .i64 0, .int .i64 bx, .int .i64 by_] 23)
        have HB5 := Lib.hid HB.out
        have HG5 := Lib.hid hg5
        have HSZ5 : Hid (w.heap.size < w5.heap.size) := Lib.hid (blk_lt HB.out)
        clear hw HB m0 m1 m2 hg5
        go_loopw [9] (fun ci wr => ∃ (j : Nat) (q : Tl), j ≤ zn + 1 ∧ ci = .int .i64 j ∧ Hid (q = Qw.at zn xn yn (min (j - 1) M)) ∧ Hid (wr.heap[w5.heap.size]? = some (.cells #[.int .i64 q.1, .int .i64 q.2.1, .int .i64 q.2.2] 23 (0, 0))) ∧ Below w.heap.size w wr ∧ Below w5.heap.size w5 wr) (fun ci _ => zn + 1 - (intOf ci).toNat)
        case atStart => exact ⟨0, (0, bx, by_), by omega, rfl, HQ, HBS, hw', hw5'⟩
        case round =>
          clear HBS hw' hw5' HQ
          obtain ⟨j, q, hj, rfl, HQ, HBS, hw, hw5⟩ := hrel
          obtain ⟨qz, qx, qy⟩ := q
          by_cases hlt : j ≤ zn
          · have b2 : (j : Int) < (zn : Int) + 1 := by omega
            obtain ⟨wo, rfl⟩ : ∃ wo : World, wo = wr := ⟨_, rfl⟩
            have hck := hcell.out j hlt
            have hal := HALL.out j hlt
            obtain ⟨X, hX⟩ : ∃ X, X = (Qw.at zn xn yn j).2.1 := ⟨_, rfl⟩
            obtain ⟨Y, hY⟩ : ∃ Y, Y = (Qw.at zn xn yn j).2.2 := ⟨_, rfl⟩
            have hat : Qw.at zn xn yn j = ((j : Int), X, Y) := by rw [hX, hY]; rfl
            rw [hat] at hck hal
            have HAT := Lib.hid hat
            have HCK := Lib.hid hck
            have HAL := Lib.hid hal
            clear hck hal hat hX hY
            have qj : (0 : Int) ≤ (j : Int) := by omega
            go_wp2_with fail
            go_loopw [10, 11] (fun ca ci wi => ∃ (i : Nat) (b : Bool), i ≤ k ∧ ci = .int .i64 i ∧ ca = .bool b ∧ Hid (b = (L.take i).all (fun t => Cv.ovB (j : Int) X Y t.1 t.2.1 t.2.2)) ∧ Hid (wi.heap[w5.heap.size]? = some (.cells #[.int .i64 qz, .int .i64 qx, .int .i64 qy] 23 (0, 0))) ∧ Below w.heap.size w wi ∧ Below w5.heap.size w5 wi) (fun _ ci _ => k - (intOf ci).toNat)
            case atStart => exact ⟨0, true, by omega, rfl, rfl, Lib.hid (by simp), HBS, hw, hw5⟩
            case round =>
              clear HBS hw hw5
              obtain ⟨i, b, hi, rfl, rfl, HB2, HBS, hw, hw5⟩ := hrel
              by_cases hik : i < k
              · have hil : i < L.length := by rw [← HN.out]; exact hik
                have hsn := all_snoc' (fun t => Cv.ovB (j : Int) X Y t.1 t.2.1 t.2.2) L i hil
                have hlk := HLKS.out i hil
                obtain ⟨t, ht⟩ : ∃ t, t = L[i]'hil := ⟨_, rfl⟩
                rw [← ht] at hsn hlk
                obtain ⟨z, x, y⟩ := t
                have HLK := Lib.hid hlk
                have HSN := Lib.hid hsn
                clear hsn hlk ht
                have qi : (0 : Int) ≤ (i : Int) := by omega
                have qi2 : (i : Int) < (k : Int) := by omega
                cases b with
                | false =>
                  have HB3 : Hid (false = (L.take (i + 1)).all (fun t => Cv.ovB (j : Int) X Y t.1 t.2.1 t.2.2)) := Lib.hid (by rw [HSN.out, ← HB2.out]; rfl)
                  go_wp2_with fail
                  go_quiet (fail)
                  replace hw := bdraws hw nq
                  replace hw5 := bdraws hw5 nq
                  go_wp2_with fail
                  exact ⟨⟨i + 1, false, by omega, by go_num, rfl, HB3, HBS, hw, hw5⟩, by simp [intOf]; omega⟩
                | true =>
                  have HB3 : Hid (Cv.ovB (j : Int) X Y z x y = (L.take (i + 1)).all (fun t => Cv.ovB (j : Int) X Y t.1 t.2.1 t.2.2)) := Lib.hid (by rw [HSN.out, ← HB2.out, Bool.true_and])
                  obtain ⟨k0, k1, k2⟩ := HLK.out _ hw
                  obtain ⟨m0, m1, m2⟩ := HCK.out _ hw5
                  go_wp2_with fail
                  refine wp_region_held_drew (S := (fun w' => (w'.cell? ⟨g, off + i * 3, none⟩ = some (.int .i64 z) ∧ w'.cell? ⟨g, off + i * 3 + 1, none⟩ = some (.int .i64 x) ∧ w'.cell? ⟨g, off + i * 3 + 2, none⟩ = some (.int .i64 y)) ∧ (w'.cell? ⟨g5, j * 3, none⟩ = some (.int .i64 (j : Int)) ∧ w'.cell? ⟨g5, j * 3 + 1, none⟩ = some (.int .i64 X) ∧ w'.cell? ⟨g5, j * 3 + 2, none⟩ = some (.int .i64 Y)))) (by kernel_rfl) (by (try dsimp only); exact ⟨⟨k0, k1, k2⟩, m0, m1, m2⟩) (fun hHeld => ?_)
                  simp only [List.size_toArray, List.length_cons, List.length_nil, Nat.zero_add, Nat.reduceAdd]
                  refine held_take (i := 0) (v := ?_) rfl (by kernel_rfl) (by kernel_rfl) (by kernel_rfl) (fun _ _ _ h => h) (by rfl) ?_ (by assumption) ?_
                  rotate_left
                  · intro w hSw
                    (try dsimp only at hSw)
                    go_simp
                    try with_reducible rfl
                  try simp only [Act.put, List.setIfInBounds_toArray, List.set_cons_zero, List.set_cons_succ]
                  refine held_take (i := 1) (v := ?_) rfl (by kernel_rfl) (by kernel_rfl) (by kernel_rfl) (fun _ _ _ h => h) (by rfl) ?_ (by assumption) ?_
                  rotate_left
                  · intro w hSw
                    (try dsimp only at hSw)
                    go_simp
                    try with_reducible rfl
                  try simp only [Act.put, List.setIfInBounds_toArray, List.set_cons_zero, List.set_cons_succ]
                  refine held_take (i := 2) (v := ?_) rfl (by kernel_rfl) (by kernel_rfl) (by kernel_rfl) (fun _ _ _ h => h) (by rfl) ?_ (by assumption) ?_
                  rotate_left
                  · intro w hSw
                    (try dsimp only at hSw)
                    go_simp
                    try with_reducible rfl
                  try simp only [Act.put, List.setIfInBounds_toArray, List.set_cons_zero, List.set_cons_succ]
                  refine held_take (i := 3) (v := ?_) rfl (by kernel_rfl) (by kernel_rfl) (by kernel_rfl) (fun _ _ _ h => h) (by rfl) ?_ (by assumption) ?_
                  rotate_left
                  · intro w hSw
                    (try dsimp only at hSw)
                    go_simp
                    try with_reducible rfl
                  try simp only [Act.put, List.setIfInBounds_toArray, List.set_cons_zero, List.set_cons_succ]
                  refine held_take (i := 4) (v := ?_) rfl (by kernel_rfl) (by kernel_rfl) (by kernel_rfl) (fun _ _ _ h => h) (by rfl) ?_ (by assumption) ?_
                  rotate_left
                  · intro w hSw
                    (try dsimp only at hSw)
                    go_simp
                    try with_reducible rfl
                  try simp only [Act.put, List.setIfInBounds_toArray, List.set_cons_zero, List.set_cons_succ]
                  refine held_take (i := 5) (v := ?_) rfl (by kernel_rfl) (by kernel_rfl) (by kernel_rfl) (fun _ _ _ h => h) (by rfl) ?_ (by assumption) ?_
                  rotate_left
                  · intro w hSw
                    (try dsimp only at hSw)
                    go_simp
                    try with_reducible rfl
                  try simp only [Act.put, List.setIfInBounds_toArray, List.set_cons_zero, List.set_cons_succ]
                  refine held_take (i := 6) (v := ?_) rfl (by kernel_rfl) (by kernel_rfl) (by kernel_rfl) (fun _ _ _ h => h) (by rfl) ?_ (by assumption) ?_
                  rotate_left
                  · intro w hSw
                    (try dsimp only at hSw)
                    go_simp
                    try with_reducible rfl
                  try simp only [Act.put, List.setIfInBounds_toArray, List.set_cons_zero, List.set_cons_succ]
                  refine held_take (i := 7) (v := ?_) rfl (by kernel_rfl) (by kernel_rfl) (by kernel_rfl) (fun _ _ _ h => h) (by rfl) ?_ (by assumption) ?_
                  rotate_left
                  · intro w hSw
                    (try dsimp only at hSw)
                    go_simp
                    try with_reducible rfl
                  try simp only [Act.put, List.setIfInBounds_toArray, List.set_cons_zero, List.set_cons_succ]
                  refine held_take (i := 8) (v := ?_) rfl (by kernel_rfl) (by kernel_rfl) (by kernel_rfl) (fun _ _ _ h => h) (by rfl) ?_ (by assumption) ?_
                  rotate_left
                  · intro w hSw
                    (try dsimp only at hSw)
                    go_simp
                    try with_reducible rfl
                  try simp only [Act.put, List.setIfInBounds_toArray, List.set_cons_zero, List.set_cons_succ]
                  refine held_take (i := 9) (v := ?_) rfl (by kernel_rfl) (by kernel_rfl) (by kernel_rfl) (fun _ _ _ h => h) (by rfl) ?_ (by assumption) ?_
                  rotate_left
                  · intro w hSw
                    (try dsimp only at hSw)
                    go_simp
                    try with_reducible rfl
                  try simp only [Act.put, List.setIfInBounds_toArray, List.set_cons_zero, List.set_cons_succ]
                  refine held_call (i := 10) (by kernel_rfl) rfl (fun K hK => ?_)
                  go_simp
                  refine (refover_any _ _ _ _ _ _ _).mono ?_; rintro e w8 ⟨rfl, hb8⟩; have HBS := Lib.hid (blk_keep2 hb8 HBS.out); have hw := bthen2 hb8 (by first | exact hw | exact Below.drew hw | exact bdraws hw _); have hw5 := bthen2 hb8 (by first | exact hw5 | exact Below.drew hw5 | exact bdraws hw5 _); obtain ⟨k0, k1, k2⟩ := HLK.out _ hw; obtain ⟨m0, m1, m2⟩ := HCK.out _ hw5
                  refine hK.out _ _ (by (try dsimp only); exact ⟨⟨k0, k1, k2⟩, m0, m1, m2⟩) (fun hHeld => ?_)
                  clear hK K
                  try simp only [Act.put, List.setIfInBounds_toArray, List.set_cons_zero, List.set_cons_succ]
                  refine held_take (i := 11) (v := ?_) rfl (by kernel_rfl) (by kernel_rfl) (by kernel_rfl) (fun _ _ _ h => h) (by rfl) ?_ (by assumption) ?_
                  rotate_left
                  · intro w hSw
                    (try dsimp only at hSw)
                    go_simp
                    try with_reducible rfl
                  try simp only [Act.put, List.setIfInBounds_toArray, List.set_cons_zero, List.set_cons_succ]
                  refine held_take (i := 12) (v := ?_) rfl (by kernel_rfl) (by kernel_rfl) (by kernel_rfl) (fun _ _ _ h => h) (by rfl) ?_ (by assumption) ?_
                  rotate_left
                  · intro w hSw
                    (try dsimp only at hSw)
                    go_simp
                    try with_reducible rfl
                  try simp only [Act.put, List.setIfInBounds_toArray, List.set_cons_zero, List.set_cons_succ]
                  refine wpAnyH_done (by kernel_rfl) ?_ _
                  go_wp2_with fail
                  exact ⟨⟨i + 1, _, by omega, by go_num, rfl, HB3, HBS, hw, hw5⟩, by simp [intOf]; omega⟩
              · obtain rfl : i = k := by omega
                have hbv : b = decide (j ≤ M) := by
                  have h := HB2.out
                  rw [HN.out, List.take_length, HAL.out] at h
                  exact h
                clear HB2
                obtain ⟨m0, m1, m2⟩ := HCK.out _ hw5
                by_cases hjM : j ≤ M
                · rw [decide_eq_true hjM] at hbv
                  subst hbv
                  have HQ2 : Hid (((j : Int), X, Y) = Qw.at zn xn yn (min (j + 1 - 1) M)) := Lib.hid (by rw [show min (j + 1 - 1) M = j by omega]; exact HAT.out.symm)
                  obtain ⟨⟨s0, s1, s2⟩, f0, f1, f2⟩ := blk_cells3 HBS.out
                  have HW3 := Lib.hid (blk_set3 (a' := .int .i64 (j : Int)) (b' := .int .i64 X) (c' := .int .i64 Y) HBS.out)
                  have hwX := st3' (d := w5.heap.size) (v0 := .int .i64 (j : Int)) (v1 := .int .i64 X) (v2 := .int .i64 Y) hw (Nat.le_of_lt HSZ5.out)
                  have hw5X := st3' (d := w5.heap.size) (v0 := .int .i64 (j : Int)) (v1 := .int .i64 X) (v2 := .int .i64 Y) hw5 (Nat.le_refl _)
                  clear hjM
                  go_wp2_with fail
                  exact ⟨⟨j + 1, ((j : Int), X, Y), by omega, by go_num, HQ2, HW3, hwX, hw5X⟩, by simp [intOf]; omega⟩
                · rw [decide_eq_false hjM] at hbv
                  subst hbv
                  have HQ2 : Hid ((qz, qx, qy) = Qw.at zn xn yn (min (j + 1 - 1) M)) := Lib.hid (by rw [HQ.out]; congr 1; omega)
                  clear hjM
                  go_wp2_with fail
                  exact ⟨⟨j + 1, (qz, qx, qy), by omega, by go_num, HQ2, HBS, hw, hw5⟩, by simp [intOf]; omega⟩
          · obtain rfl : j = zn + 1 := by omega
            have b2 : ¬ ((zn + 1 : Nat) : Int) < (zn : Int) + 1 := by omega
            have hfin : Qc.ct L = (qz, qx, qy) := by rw [HCT.out, HQ.out]; congr 1; have := HMZ.out; omega
            have HYES : Hid (ComR L (.returned (.tuple #[.agg #[.int .i64 qz, .int .i64 qx, .int .i64 qy], .bool true]))) := Lib.hid (by unfold ComR; rw [hfin, HCB.out])
            clear hfin
            obtain ⟨⟨s0, s1, s2⟩, _⟩ := blk_cells3 HBS.out
            have HB := Lib.hid (HB5.out)
            replace HB := Lib.hid ((hw5.block _ (blk_lt HB.out)).trans HB.out)
            obtain ⟨⟨b0, b1, b2'⟩, f0, f1, f2⟩ := blk_cells3 HB.out
            have HW3 := blk_set3 (a' := .int .i64 qz) (b' := .int .i64 qx) (c' := .int .i64 qy) HB.out
            obtain ⟨⟨d0, d1, d2⟩, _⟩ := blk_cells3 HW3
            have HD := Lib.hid (And.intro d0 (And.intro d1 d2))
            clear d0 d1 d2 HW3
            go_wp2_with fail
            obtain ⟨d0, d1, d2⟩ := HD.out
            exact bodyPost_ret (v := .tuple #[.agg #[.int .i64 qz, .int .i64 qx, .int .i64 qy], .bool true]) (by simp [results, Tryd.results18, go_sem, d0, d1, d2]) rfl ⟨HYES.out, (by repeat (first | with_reducible exact Below.refl _ _ | with_reducible assumption | with_reducible refine Below.setCell ?_ (by first | (simp; done) | omega | (simp; omega)) _ | with_reducible refine Below.alloc ?_ (by first | exact Nat.le_refl _ | (simp; done) | (simp; omega) | omega | (have := hw.size; omega)) _))⟩

end Go.Proofs.YtdipincjginmcaaDoor
