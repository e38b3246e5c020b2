/- What the least tile over some is. -/
import Derived.Test.YtdipincjginmcaaDoorQuadBackMath
namespace Go.Proofs.YtdipincjginmcaaDoor
open Go.RowKit

theorem ov_key {z x y z' x' y' : Int} (h : Cv.okB z x y = true) (h' : Cv.okB z' x' y' = true) : Cv.ovB z x y z' x' y' = true ↔ Qc.key (z, x, y) <+: Qc.key (z', x', y') := by
  rw [← key_prefix h h', kt_prefix (Qc.key_lt _) (Qc.key_lt _)]
theorem ov_ok {z x y z' x' y' : Int} (h : Cv.ovB z x y z' x' y' = true) : Cv.okB z x y = true ∧ Cv.okB z' x' y' = true := by
  unfold Cv.ovB at h
  simp only [Bool.and_eq_true] at h
  exact h.1.1
theorem Qc.getD_get {L : List Tl} {k : Nat} (hk : k < L.length) : L.getD k (0, 0, 0) = L[k]'hk := by rw [List.getD_eq_getElem?_getD, List.getElem?_eq_getElem hk]; rfl
theorem sh_both {K A B : List Nat} (ha : K <+: A) (hb : K <+: B) : K <+: A.take (Qk.sh A B) := by
  have ea := List.prefix_iff_eq_take.1 ha
  have eb := List.prefix_iff_eq_take.1 hb
  have hm := Qk.sh_max A B K.length ha.length_le hb.length_le (ea.symm.trans eb)
  refine List.prefix_iff_eq_take.2 ?_
  rw [List.take_take, Nat.min_eq_left hm]
  exact ea
theorem Qc.pre_prefix (L : List Tl) : ∀ n, n ≤ L.length → ∀ j (hj : j < L.length), j < n → Qc.pre L n <+: Qc.key (L[j]'hj) := by
  intro n
  induction n with
  | zero => intro _ j _ hj; omega
  | succ n ih =>
    intro hn j hj hjn
    rcases n with _ | m
    · obtain rfl : j = 0 := by omega
      rw [Qc.pre_one, Qc.getD_get hj]
      exact List.take_prefix _ _
    · rw [Qc.pre_succ]
      by_cases e : j = m + 1
      · subst e
        rw [Qc.getD_get hj, Qk.sh_take]
        exact List.take_prefix _ _
      · exact (List.take_prefix _ _).trans (ih (by omega) j hj (by omega))
theorem Qc.pre_max (L : List Tl) {K : List Nat} : ∀ n, 0 < n → n ≤ L.length → (∀ j (hj : j < L.length), j < n → K <+: Qc.key (L[j]'hj)) → K <+: Qc.pre L n := by
  intro n
  induction n with
  | zero => intro h; omega
  | succ n ih =>
    intro _ hn hk
    rcases n with _ | m
    · rw [Qc.pre_one, Qc.getD_get (by omega)]
      exact sh_both (hk 0 (by omega) (by omega)) (hk 0 (by omega) (by omega))
    · rw [Qc.pre_succ, Qc.getD_get (show m + 1 < L.length by omega)]
      exact sh_both (ih (by omega) (by omega) (fun j hj hjn => hk j hj (by omega))) (hk (m + 1) (by omega) (by omega))
theorem Qc.cb_in {L : List Tl} (h : Qc.cb L = true) : 0 < L.length ∧ ∀ k (hk : k < L.length), Qc.ok (L[k]'hk) = true := by
  unfold Qc.cb at h
  simp only [Bool.and_eq_true, decide_eq_true_eq] at h
  exact ⟨h.1, fun k hk => List.all_eq_true.1 h.2 _ (List.getElem_mem hk)⟩
theorem tile_of_digits {K : List Nat} (hK : ∀ d ∈ K, d < 4) (hl : K.length ≤ 26) : Qc.ok ((K.length : Int), ((Qk.pt K).1 : Int), ((Qk.pt K).2 : Int)) = true ∧ Qc.key ((K.length : Int), ((Qk.pt K).1 : Int), ((Qk.pt K).2 : Int)) = K := by
  have hlt := Qk.pt_lt K hK
  refine ⟨?_, ?_⟩
  · show Cv.okB (K.length : Int) ((Qk.pt K).1 : Int) ((Qk.pt K).2 : Int) = true
    unfold Cv.okB
    rw [Int.toNat_natCast]
    refine decide_eq_true ⟨by omega, by omega, by omega, ?_, by omega, ?_⟩
    · exact Int.ofNat_lt.2 hlt.1
    · exact Int.ofNat_lt.2 hlt.2
  · unfold Qc.key
    simp only [Int.toNat_natCast]
    exact Qk.kd_pt K hK
theorem key_tile {t : Tl} (h : Qc.ok t = true) : t = (((Qc.key t).length : Int), ((Qk.pt (Qc.key t)).1 : Int), ((Qk.pt (Qc.key t)).2 : Int)) := by
  obtain ⟨z, x, y⟩ := t
  have h' : Cv.okB z x y = true := h
  obtain ⟨⟨hz0, hz1⟩, hx0, hx1, hy0, hy1⟩ := Cv.ok_in h'
  unfold Qc.key
  rw [Qk.kd_len, Qk.pt_kd _ _ _ (by show x.toNat < 2 ^ z.toNat; omega) (by show y.toNat < 2 ^ z.toNat; omega)]
  simp only [Int.toNat_of_nonneg hz0, Int.toNat_of_nonneg hx0, Int.toNat_of_nonneg hy0]
theorem Qc.ct_in {L : List Tl} (h : Qc.cb L = true) : Qc.ok (Qc.ct L) = true ∧ Qc.key (Qc.ct L) = Qc.pre L L.length := by
  obtain ⟨h0, hk⟩ := Qc.cb_in h
  have hp := Qc.pre_prefix L L.length (Nat.le_refl _) 0 h0 h0
  have hl := Nat.le_trans hp.length_le (Qc.key_len (hk 0 h0))
  have hd : ∀ d ∈ Qc.pre L L.length, d < 4 := fun d hd => Qc.key_lt _ d (hp.subset hd)
  have := tile_of_digits hd hl
  unfold Qc.ct
  rw [if_pos h]
  exact this
/-- it is over each -/
theorem Qc.ct_over {L : List Tl} (h : Qc.cb L = true) (j : Nat) (hj : j < L.length) : Cv.ovB (Qc.ct L).1 (Qc.ct L).2.1 (Qc.ct L).2.2 (L[j]'hj).1 (L[j]'hj).2.1 (L[j]'hj).2.2 = true := by
  obtain ⟨hok, hkey⟩ := Qc.ct_in h
  obtain ⟨h0, hk⟩ := Qc.cb_in h
  rw [ov_key (by exact hok) (by exact hk j hj)]
  show Qc.key (Qc.ct L) <+: Qc.key (L[j]'hj)
  rw [hkey]
  exact Qc.pre_prefix L L.length (Nat.le_refl _) j hj hj
/-- each that is over all is over it -/
theorem Qc.ct_most {L : List Tl} {z x y : Int} (h : Qc.cb L = true) (ha : ∀ j (hj : j < L.length), Cv.ovB z x y (L[j]'hj).1 (L[j]'hj).2.1 (L[j]'hj).2.2 = true) : Cv.ovB z x y (Qc.ct L).1 (Qc.ct L).2.1 (Qc.ct L).2.2 = true := by
  obtain ⟨hok, hkey⟩ := Qc.ct_in h
  obtain ⟨h0, hk⟩ := Qc.cb_in h
  have ht := (ov_ok (ha 0 h0)).1
  rw [ov_key ht (by exact hok)]
  show Qc.key (z, x, y) <+: Qc.key (Qc.ct L)
  rw [hkey]
  refine Qc.pre_max L L.length h0 (Nat.le_refl _) (fun j hj _ => ?_)
  exact (ov_key ht (by exact hk j hj)).1 (ha j hj)
/-- of a tile and one over it it is that one -/
theorem Qc.two {a t : Tl} (ha : Qc.ok a = true) (ht : Qc.ok t = true) (h : Qc.key a <+: Qc.key t) : Qc.cb [a, t] = true ∧ Qc.ct [a, t] = a := by
  have hcb : Qc.cb [a, t] = true := by unfold Qc.cb; simp [ha, ht]
  refine ⟨hcb, ?_⟩
  have h1 : Qc.key a <+: Qc.pre [a, t] 2 := Qc.pre_max [a, t] 2 (by omega) (by simp) (fun j hj hjn => by
    rcases j with _ | _ | j
    · exact List.prefix_refl _
    · exact h
    · simp at hj; omega)
  have h2 := Qc.pre_prefix [a, t] 2 (by simp) 0 (by simp) (by omega)
  have he : Qc.pre [a, t] 2 = Qc.key a := (h1.eq_of_length (Nat.le_antisymm h1.length_le h2.length_le)).symm
  unfold Qc.ct
  rw [if_pos hcb]
  show (((Qc.pre [a, t] 2).length : Int), ((Qk.pt (Qc.pre [a, t] 2)).1 : Int), ((Qk.pt (Qc.pre [a, t] 2)).2 : Int)) = a
  rw [he]
  exact (key_tile ha).symm
theorem Qw.at_in {z x y n : Nat} (hz : z ≤ 26) (hx : x < 2 ^ z) (hy : y < 2 ^ z) (hn : n ≤ z) : Qc.ok (Qw.at z x y n) = true ∧ Qc.key (Qw.at z x y n) = (Qk.kd z x y).take n := by
  have hd : ∀ d ∈ (Qk.kd z x y).take n, d < 4 := fun d hd => Qk.kd_lt z x y d (List.mem_of_mem_take hd)
  have hl : ((Qk.kd z x y).take n).length = n := by rw [List.length_take, Qk.kd_len]; omega
  have := tile_of_digits hd (by rw [hl]; omega)
  rw [hl, pt_begin hx hy hn] at this
  exact this
/-- each tile of the way is over the next one, and over the last one -/
theorem Qw.at_over {z x y n m : Nat} (hz : z ≤ 26) (hx : x < 2 ^ z) (hy : y < 2 ^ z) (hnm : n ≤ m) (hm : m ≤ z) : Qc.key (Qw.at z x y n) <+: Qc.key (Qw.at z x y m) := by
  rw [(Qw.at_in hz hx hy (by omega)).2, (Qw.at_in hz hx hy hm).2]
  refine List.prefix_iff_eq_take.2 ?_
  rw [List.take_take, List.length_take, Qk.kd_len]
  congr 1
  omega
theorem Qw.at_last (z x y : Nat) : Qw.at z x y z = ((z : Int), (x : Int), (y : Int)) := by unfold Qw.at; simp
end Go.Proofs.YtdipincjginmcaaDoor
