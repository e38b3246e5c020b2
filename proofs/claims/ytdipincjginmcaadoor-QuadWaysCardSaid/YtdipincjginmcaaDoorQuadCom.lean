/- The walk of the program's Common. -/
import Derived.Test.YtdipincjginmcaaDoorQuadWay
import Derived.Test.YtdipincjginmcaaDoorKids
namespace Go.Proofs.YtdipincjginmcaaDoor
open Go.RowKit

theorem Reads.tplain {w : World} {B n : Nat} {A : Option Addr} {L : List Tl} (h : Reads w B 3 A n (tcells L)) (h0 : 0 < n) (hn : n = L.length) : ∃ g off, A = some ⟨g, off, none⟩ ∧ g < B := by
  subst hn
  obtain ⟨ad, rfl, hb, hc⟩ := h.2 h0
  obtain ⟨t, M, rfl⟩ : ∃ t M, L = t :: M := by cases L with | nil => simp at h0 | cons t M => exact ⟨t, M, rfl⟩
  have c0 := hc 0 (.int .i64 t.1) rfl
  have hs := World.cell?_spot c0
  obtain ⟨g, off, s⟩ := ad
  refine ⟨g, off, ?_, hb⟩
  have : s = none := by simpa [Addr.add] using hs
  rw [this]
theorem tcells_get : ∀ (L : List Tl) (i : Nat) (hi : i < L.length), (tcells L)[i * 3]? = some (.int .i64 (L[i]'hi).1) ∧ (tcells L)[i * 3 + 1]? = some (.int .i64 (L[i]'hi).2.1) ∧ (tcells L)[i * 3 + 2]? = some (.int .i64 (L[i]'hi).2.2) := by
  intro L
  induction L with
  | nil => intro i hi; simp at hi
  | cons t L ih =>
    intro i hi
    cases i with
    | zero => exact ⟨rfl, rfl, rfl⟩
    | succ i =>
      have := ih i (by simpa using hi)
      rw [show (i + 1) * 3 = i * 3 + 1 + 1 + 1 by omega]
      exact this
theorem Reads.tile {w : World} {B n g off : Nat} {L : List Tl} (h : Reads w B 3 (some ⟨g, off, none⟩) n (tcells L)) (hn : n = L.length) (k : Nat) (hk : k < L.length) :
    w.cell? ⟨g, off + k * 3, none⟩ = some (.int .i64 (L[k]'hk).1) ∧ w.cell? ⟨g, off + k * 3 + 1, none⟩ = some (.int .i64 (L[k]'hk).2.1) ∧ w.cell? ⟨g, off + k * 3 + 2, none⟩ = some (.int .i64 (L[k]'hk).2.2) := by
  subst hn
  obtain ⟨ad, e, _, hc⟩ := h.2 (by omega)
  injection e with e
  subst e
  obtain ⟨h0, h1, h2⟩ := tcells_get L k hk
  have ha : ∀ m, (⟨g, off, none⟩ : Addr).add m = ⟨g, off + m, none⟩ := by
    intro m
    unfold Addr.add
    by_cases hm : m = 0
    · subst hm; rfl
    · rw [if_neg hm]
  have c0 := hc _ _ h0
  have c1 := hc _ _ h1
  have c2 := hc _ _ h2
  rw [ha] at c0 c1 c2
  exact ⟨c0, c1, c2⟩

def Qc.key (t : Tl) : List Nat := Qk.kd t.1.toNat t.2.1.toNat t.2.2.toNat
def Qc.ok (t : Tl) : Bool := Cv.okB t.1 t.2.1 t.2.2
def Qc.pre (L : List Tl) : Nat → List Nat
  | 0 => []
  | k + 1 => (if k = 0 then Qc.key (L.getD 0 (0, 0, 0)) else Qc.pre L k).take (Qk.sh (if k = 0 then Qc.key (L.getD 0 (0, 0, 0)) else Qc.pre L k) (Qc.key (L.getD k (0, 0, 0))))
theorem Qc.pre_one (L : List Tl) : Qc.pre L 1 = (Qc.key (L.getD 0 (0, 0, 0))).take (Qk.sh (Qc.key (L.getD 0 (0, 0, 0))) (Qc.key (L.getD 0 (0, 0, 0)))) := rfl
theorem Qc.pre_succ (L : List Tl) (m : Nat) : Qc.pre L (m + 2) = (Qc.pre L (m + 1)).take (Qk.sh (Qc.pre L (m + 1)) (Qc.key (L.getD (m + 1) (0, 0, 0)))) := by
  show (if m + 1 = 0 then _ else Qc.pre L (m + 1)).take (Qk.sh (if m + 1 = 0 then _ else Qc.pre L (m + 1)) _) = _
  rw [if_neg (by omega)]
def Qc.cb (L : List Tl) : Bool := decide (0 < L.length) && L.all Qc.ok
def Qc.ct (L : List Tl) : Tl := if Qc.cb L = true then (((Qc.pre L L.length).length : Int), ((Qk.pt (Qc.pre L L.length)).1 : Int), ((Qk.pt (Qc.pre L L.length)).2 : Int)) else (0, 0, 0)
def ComR (L : List Tl) (e : Ending) : Prop := e = .returned (.tuple #[.agg #[.int .i64 (Qc.ct L).1, .int .i64 (Qc.ct L).2.1, .int .i64 (Qc.ct L).2.2], .bool (Qc.cb L)])
theorem ComR.no {L : List Tl} (h : Qc.cb L = false) : ComR L (.returned (.tuple #[.agg #[.int .i64 0, .int .i64 0, .int .i64 0], .bool false])) := by
  unfold ComR Qc.ct; rw [h]; rfl
theorem Qc.key_lt (t : Tl) : ∀ d ∈ Qc.key t, d < 4 := Qk.kd_lt _ _ _
theorem Qc.key_len {t : Tl} (h : Qc.ok t = true) : (Qc.key t).length ≤ 26 := by
  unfold Qc.key; rw [Qk.kd_len]; have := Cv.ok_in h; omega
theorem Qc.cb_no {L : List Tl} {k : Nat} (hk : k < L.length) (h : Qc.ok (L[k]'hk) = false) : Qc.cb L = false := by
  unfold Qc.cb
  have : L.all Qc.ok = false := List.all_eq_false.2 ⟨_, List.getElem_mem hk, by simp [h]⟩
  rw [this, Bool.and_false]
theorem Qc.cb_yes {L : List Tl} (h0 : 0 < L.length) (h : ∀ k (hk : k < L.length), Qc.ok (L[k]'hk) = true) : Qc.cb L = true := by
  unfold Qc.cb
  have : L.all Qc.ok = true := List.all_eq_true.2 fun t ht => by obtain ⟨k, hk, rfl⟩ := List.mem_iff_getElem.1 ht; exact h k hk
  rw [this, Bool.and_true]; simpa using h0
theorem key_text {z x y : Int} (h : Cv.okB z x y = true) {e : Ending} (he : KeyR z x y e) : e = .returned (.tuple #[.string (Qs.kt (Qc.key (z, x, y))), .int .i64 0]) := by
  unfold KeyR Qs.key at he
  rw [if_pos h, Cv.pe_ok h] at he
  exact he
theorem key_none {z x y : Int} (h : Cv.okB z x y = false) {e : Ending} (he : KeyR z x y e) : e = .returned (.tuple #[.string ⟨#[]⟩, .int .i64 (Cv.pe z x y)]) := by
  unfold KeyR Qs.key at he
  rw [if_neg (by simp [h])] at he
  exact he
theorem Qs.sh_kt {K S : List Nat} (h : ∀ d ∈ K, d < 4) (h' : ∀ d ∈ S, d < 4) : Qk.sh (Qs.bl (Qs.kt K)) (Qs.bl (Qs.kt S)) = Qk.sh K S := by
  rw [Qs.bl_kt h, Qs.bl_kt h', Qk.sh_map]

set_option maxRecDepth 100000 in
set_option maxHeartbeats 4000000 in
theorem common_any (A : Option Addr) (n cap : Nat) (L : List Tl) (B : Nat) (w : World) (hr : Reads w B 3 A n (tcells L)) (hn : n = L.length) (hB : B ≤ w.heap.size) (hm : n ≤ 1000) :
    Calls Tryd.prog 16 #[.slice A n cap] w fun e w' => ComR L e ∧ Below w.heap.size w w' := by
  have HR := Lib.hid hr
  have HN := Lib.hid hn
  clear hr hn
  go_enter Tryd.func16, Tryd.ntmps16
  go_wp2_with fail
  have HB := Lib.hid (heap_alloc_new w (.cells #[.int .i64 0, .int .i64 0, .int .i64 0] 30))
  have hw : Below w.heap.size w (w.alloc (.cells #[.int .i64 0, .int .i64 0, .int .i64 0] 30)) := (Below.refl _ _).alloc (Nat.le_refl _) _
  go_loopw [4, 13] (fun ck ci wr => ∃ (k : Nat) (K : List Nat), k ≤ n ∧ ci = .int .i64 k ∧ ck = .string (Qs.kt K) ∧ K.length ≤ 26 ∧ Hid (K = Qc.pre L k) ∧ Hid (∀ d ∈ K, d < 4) ∧ Hid (∀ j (hj : j < L.length), j < k → Qc.ok (L[j]'hj) = true) ∧ Hid (wr.heap[w.heap.size]? = some (.cells #[.int .i64 0, .int .i64 0, .int .i64 0] 30 (0, 0))) ∧ Below w.heap.size w wr) (fun _ ci _ => n - (intOf ci).toNat)
  case atStart => exact ⟨0, [], by omega, rfl, rfl, by simp, Lib.hid rfl, Lib.hid (by simp), Lib.hid (fun j _ hj => by omega), HB, hw⟩
  case round =>
    clear HB hw
    obtain ⟨k, K, hk, rfl, rfl, hK26, HK, HK4, HOK, HB, hw⟩ := hrel
    by_cases hlt : k < n
    · have hlt' : k < L.length := by rw [← HN.out]; exact hlt
      obtain ⟨g, off, hA, hgB⟩ := HR.out.tplain (by omega) HN.out
      have HR' := HR.out
      rw [hA] at HR'
      subst hA
      obtain ⟨c0, c1, c2⟩ := ((HR'.more hB).below hw).tile HN.out k hlt'
      obtain ⟨t, ht⟩ : ∃ t, t = L[k]'hlt' := ⟨_, rfl⟩
      have hgd : L.getD k (0, 0, 0) = t := by rw [ht, List.getD_eq_getElem?_getD, List.getElem?_eq_getElem hlt']; rfl
      rw [← ht] at c0 c1 c2
      have HT := Lib.hid ht
      have HGD := Lib.hid hgd
      obtain ⟨z, x, y⟩ := t
      clear ht hgd HR'
      rcases Bool.eq_false_or_eq_true (Cv.okB z x y) with h | h
      · have HOKT := Lib.hid h
        have HKT := Lib.hid (fun e he => key_text h (e := e) he)
        have HOK2 : Hid (∀ j (hj : j < L.length), j < k + 1 → Qc.ok (L[j]'hj) = true) := Lib.hid (fun j hj hjk => by
          by_cases e : j = k
          · subst e; rw [← HT.out]; exact h
          · exact HOK.out j hj (by omega))
        have hS26 : (Qc.key (z, x, y)).length ≤ 26 := Qc.key_len h
        have hS4 := Qc.key_lt (z, x, y)
        obtain ⟨S, hS⟩ : ∃ S, S = Qc.key (z, x, y) := ⟨_, rfl⟩
        rw [← hS] at HKT hS26 hS4
        have HS4 := Lib.hid hS4
        have HS := Lib.hid hS
        clear h hS hS4
        rcases k with _ | m
        · simp only [Nat.zero_mul, Nat.add_zero] at c0 c1 c2
          go_wp2_with fail
          refine (key_any _ _ _ _).mono ?_; rintro e w1 ⟨he, hb⟩
          obtain rfl := HKT.out _ he
          replace HB := Lib.hid (blk_keep2 hb (blk_alloc HB.out _))
          replace hw := bthen2 (blk_one hb).2.2 hw
          clear he hb c0 c1 c2
          go_wp2_with fail
          refine (shared_any _ _ _ (by rw [Qs.kt_size]; omega) (by rw [Qs.kt_size]; omega)).mono ?_; rintro e w2 ⟨he, hb⟩
          rw [Qs.sh_kt HS4.out HS4.out] at he
          obtain ⟨m, hm0⟩ : ∃ m, m = Qk.sh S S := ⟨_, rfl⟩
          have hml := (Qk.sh_le S S).1
          rw [← hm0] at he hml
          subst he
          replace HB := Lib.hid (blk_keep2 hb HB.out)
          replace hw := bthen2 hb hw
          have hsz : (Qs.kt S).size = S.length := Qs.kt_size S
          have hext := Qs.kt_ext S m
          have hm1 : (m : Int) ≤ (S.length : Int) := by omega
          have HM0 := Lib.hid hm0
          clear hb hm0
          go_wp2_with fail
          exact ⟨⟨1, S.take m, by omega, rfl, rfl, by rw [List.length_take]; omega, Lib.hid (by rw [HM0.out, Qc.pre_one, HGD.out, ← HS.out]), Lib.hid (fun d hd => HS4.out d (List.mem_of_mem_take hd)), HOK2, HB, hw⟩, by simp [intOf]; omega⟩
        · have hkz : (((m : Int) + 1) == 0) = false := by rw [beq_eq_false_iff_ne]; omega
          go_wp2_with fail
          refine (key_any _ _ _ _).mono ?_; rintro e w1 ⟨he, hb⟩
          obtain rfl := HKT.out _ he
          replace HB := Lib.hid (blk_keep2 hb (blk_alloc HB.out _))
          replace hw := bthen2 (blk_one hb).2.2 hw
          clear he hb c0 c1 c2
          go_wp2_with fail
          refine (shared_any _ _ _ (by rw [Qs.kt_size]; omega) (by rw [Qs.kt_size]; omega)).mono ?_; rintro e w2 ⟨he, hb⟩
          rw [Qs.sh_kt HK4.out HS4.out] at he
          obtain ⟨q, hq0⟩ : ∃ q, q = Qk.sh K S := ⟨_, rfl⟩
          have hml := (Qk.sh_le K S).1
          rw [← hq0] at he hml
          subst he
          replace HB := Lib.hid (blk_keep2 hb HB.out)
          replace hw := bthen2 hb hw
          have hsz : (Qs.kt K).size = K.length := Qs.kt_size K
          have hext := Qs.kt_ext K q
          have hm1 : (q : Int) ≤ (K.length : Int) := by omega
          have HM0 := Lib.hid hq0
          clear hb hq0
          go_wp2_with fail
          exact ⟨⟨m + 2, K.take q, by omega, by go_num, rfl, by rw [List.length_take]; omega, Lib.hid (by rw [HM0.out, Qc.pre_succ, ← HK.out, HGD.out, ← HS.out]), Lib.hid (fun d hd => HK4.out d (List.mem_of_mem_take hd)), HOK2, HB, hw⟩, by simp [intOf]; omega⟩
      · have hpe : (Cv.pe z x y != 0) = true := by rcases Cv.pe_not h with q | q <;> rw [q] <;> rfl
        have HKT := Lib.hid (fun e he => key_none h (e := e) he)
        have HNO := Lib.hid (ComR.no (Qc.cb_no hlt' (by rw [← HT.out]; exact h)))
        clear h
        go_wp2_with fail
        refine (key_any _ _ _ _).mono ?_; rintro e w1 ⟨he, hb⟩
        obtain rfl := HKT.out _ he
        replace HB := Lib.hid (blk_keep2 hb (blk_alloc HB.out _))
        replace hw := bthen2 (blk_one hb).2.2 hw
        clear he hb c0 c1 c2
        obtain ⟨⟨b0, b1, b2⟩, f0, f1, f2⟩ := blk_cells3 HB.out
        go_wp2_with fail
        exact bodyPost_ret (v := .tuple #[.agg #[.int .i64 0, .int .i64 0, .int .i64 0], .bool false]) (by simp [results, Tryd.results16, go_sem, b0, b1, b2]) rfl ⟨HNO.out, (by repeat (first | with_reducible exact Below.refl _ _ | with_reducible assumption | with_reducible refine Below.setCell ?_ (by first | (simp; done) | omega | (simp; omega)) _ | with_reducible refine Below.alloc ?_ (by first | exact Nat.le_refl _ | (simp; done) | (simp; omega) | omega | (have := hw.size; omega)) _))⟩
    · obtain rfl : k = n := by omega
      obtain ⟨⟨b0, b1, b2⟩, f0, f1, f2⟩ := blk_cells3 HB.out
      rcases Nat.eq_zero_or_pos k with h0 | h0
      · have HNO := Lib.hid (ComR.no (L := L) (by unfold Qc.cb; rw [← HN.out, h0]; rfl))
        subst h0
        go_wp2_with fail
        exact bodyPost_ret (v := .tuple #[.agg #[.int .i64 0, .int .i64 0, .int .i64 0], .bool false]) (by simp [results, Tryd.results16, go_sem, b0, b1, b2]) rfl ⟨HNO.out, (by repeat (first | with_reducible exact Below.refl _ _ | with_reducible assumption | with_reducible refine Below.setCell ?_ (by first | (simp; done) | omega | (simp; omega)) _ | with_reducible refine Below.alloc ?_ (by first | exact Nat.le_refl _ | (simp; done) | (simp; omega) | omega | (have := hw.size; omega)) _))⟩
      · have hcb : Qc.cb L = true := Qc.cb_yes (by rw [← HN.out]; exact h0) (fun j hj => HOK.out j hj (by rw [HN.out]; exact hj))
        have HYES : Hid (ComR L (.returned (.tuple #[.agg #[.int .i64 (K.length : Int), .int .i64 ((Qk.pt K).1 : Int), .int .i64 ((Qk.pt K).2 : Int)], .bool true]))) := Lib.hid (by unfold ComR Qc.ct; rw [hcb, if_pos rfl, ← HN.out, ← HK.out])
        have HPK := Lib.hid (fun e he => parse_key HK4.out hK26 (e := e) he)
        have hk0 : (((k : Nat) : Int) == 0) = false := by rw [beq_eq_false_iff_ne]; omega
        clear hcb b0 b1 b2 f0 f1 f2
        go_wp2_with fail
        refine (parse_any _ (by rw [Qs.kt_size]; simp [maxLen]; omega) _).mono ?_; rintro e w2 ⟨he, hb⟩
        obtain rfl := HPK.out _ he
        replace HB := Lib.hid (blk_keep2 hb HB.out)
        replace hw := bthen2 hb hw
        clear he hb
        obtain ⟨X, hX⟩ : ∃ X : Int, X = ((Qk.pt K).1 : Int) := ⟨_, rfl⟩
        obtain ⟨Y, hY⟩ : ∃ Y : Int, Y = ((Qk.pt K).2 : Int) := ⟨_, rfl⟩
        obtain ⟨Z, hZ⟩ : ∃ Z : Int, Z = (K.length : Int) := ⟨_, rfl⟩
        rw [← hX, ← hY, ← hZ] at HYES ⊢
        clear hX hY hZ
        obtain ⟨⟨b0, b1, b2⟩, f0, f1, f2⟩ := blk_cells3 HB.out
        have hlb := blk_lt HB.out
        have HW3 := blk_alloc (blk_set3 (a' := .int .i64 Z) (b' := .int .i64 X) (c' := .int .i64 Y) HB.out)
        go_wp2_with fail
        obtain ⟨⟨d0, d1, d2⟩, _⟩ := blk_cells3 (HW3 (.cells #[.int .i64 Z, .int .i64 X, .int .i64 Y] 30))
        exact bodyPost_ret (v := .tuple #[.agg #[.int .i64 Z, .int .i64 X, .int .i64 Y], .bool true]) (by simp [results, Tryd.results16, go_sem, d0, d1, d2]) rfl ⟨HYES.out, (by repeat (first | with_reducible exact Below.refl _ _ | with_reducible assumption | with_reducible refine Below.setCell ?_ (by first | (simp; done) | omega | (simp; omega)) _ | with_reducible refine Below.alloc ?_ (by first | exact Nat.le_refl _ | (simp; done) | (simp; omega) | omega | (have := hw.size; omega)) _))⟩
end Go.Proofs.YtdipincjginmcaaDoor
