/- The walk of tileid.Down. -/
import Derived.Test.YtdipincjginmcaaTileOver
import Derived.Deep.AppendLies
import Derived.Deep.DeepMust
namespace Go.Proofs.Ytdipincjginmcaa
open Go.RowKit

/-- the cells of a list of tiles -/
def tcells (L : List (Int × Int × Int)) : List Value := L.flatMap fun t => [.int .i64 t.1, .int .i64 t.2.1, .int .i64 t.2.2]
theorem tcells_len (L : List (Int × Int × Int)) : (tcells L).length = L.length * 3 := by
  induction L with
  | nil => rfl
  | cons t L ih => simp only [tcells, List.flatMap_cons, List.length_append, List.length_cons, List.length_nil] at *; omega
theorem tcells_snoc (L : List (Int × Int × Int)) (t : Int × Int × Int) : tcells (L ++ [t]) = tcells L ++ [.int .i64 t.1, .int .i64 t.2.1, .int .i64 t.2.2] := by simp [tcells]
/-- a slice of the call's own that holds the tiles L -/
def TilesAt (w : World) (B : Nat) (E : TypeId) (v : Value) (L : List (Int × Int × Int)) : Prop := w.ownsRow B E 3 v L.length (tcells L)
theorem TilesAt.cell {w : World} {B g cap n : Nat} {E : TypeId} {L : List (Int × Int × Int)} (h : TilesAt w B E (.slice (some ⟨g, 0, none⟩) n cap) L) (i : Nat) (hi : i < L.length) :
    w.cell? ⟨g, i * 3, none⟩ = some (.int .i64 (L[i]'hi).1) ∧ w.cell? ⟨g, i * 3 + 1, none⟩ = some (.int .i64 (L[i]'hi).2.1) ∧ w.cell? ⟨g, i * 3 + 2, none⟩ = some (.int .i64 (L[i]'hi).2.2) := by
  have hl : ∀ (L : List (Int × Int × Int)) (i : Nat) (hi : i < L.length), (tcells L)[i * 3]? = some (.int .i64 (L[i]'hi).1) ∧ (tcells L)[i * 3 + 1]? = some (.int .i64 (L[i]'hi).2.1) ∧ (tcells L)[i * 3 + 2]? = some (.int .i64 (L[i]'hi).2.2) := by
    intro L
    induction L with
    | nil => intro i hi; simp at hi
    | cons t L ih =>
      intro i hi
      cases i with
      | zero => exact ⟨rfl, rfl, rfl⟩
      | succ i =>
        have := ih i (by simpa using hi)
        rw [show (i + 1) * 3 = i * 3 + 1 + 1 + 1 by omega]
        exact this
  obtain ⟨h0, h1, h2⟩ := hl L i hi
  have hn : L.length = n := by
    rcases h.2 with ⟨hv, h0⟩ | ⟨g', cap', cur, hv, _⟩
    · rw [h0] at hi; omega
    · injection hv with _ hv _; exact hv.symm
  have hc := h.cells (g := g) rfl
  have e : ∀ j, (⟨g, 0, none⟩ : Addr).add j = ⟨g, j, none⟩ := fun j => by unfold Addr.add; split <;> simp_all
  exact ⟨e _ ▸ hc _ _ h0, e _ ▸ hc _ _ h1, e _ ▸ hc _ _ h2⟩

theorem tile_info : (Try.prog.info? 44).map (fun i => (i.zero, i.size, i.bytes)) = some (some (.agg #[.int .i64 0, .int .i64 0, .int .i64 0]), 3, 24) := by kernel_rfl

/-- tile i of those behind an identifier -/
def Cv.tl (id : Int) : Int × Int × Int := (Cv.oz id, Cv.ox id, Cv.oy id)
def Cv.tls (from_ : Int) : Nat → List (Int × Int × Int)
  | 0 => []
  | k + 1 => Cv.tls from_ k ++ [Cv.tl (from_ + k)]
theorem Cv.tls_len (f : Int) (k : Nat) : (Cv.tls f k).length = k := by
  induction k with
  | zero => rfl
  | succ k ih => simp [Cv.tls, ih]
def Cv.dB (tz tx ty : Int) : Bool := Cv.okB tz tx ty && decide (tz < 26)
def Cv.dl (tz tx ty : Int) : List (Int × Int × Int) := if Cv.dB tz tx ty then Cv.tls (Cv.rf tz tx ty (tz + 1)) 4 else []
def Cv.de (tz tx ty : Int) : Int := if Cv.okB tz tx ty then (if tz < 26 then 0 else 6) else Cv.pe tz tx ty

/-- what Down gives: a list of tiles of the call's own and an error -/
def DownPost (E : TypeId) (L : List (Int × Int × Int)) (err : Int) (w : World) (e : Ending) (w' : World) : Prop :=
  ∃ v, e = .returned (.tuple #[v, .int .i64 err]) ∧ TilesAt w' w.heap.size E v L ∧ Below w.heap.size w w'

theorem blk_news3 {w : World} {g : Nat} {a b c : Value} {t : TypeId} (h : w.heap[g]? = some (.cells #[a, b, c] t (0, 0))) : ∀ j u, [a, b, c][j]? = some u → w.cell? ((⟨g, 0, none⟩ : Addr).add j) = some u := by
  intro j u hu
  obtain ⟨⟨h0, h1, h2⟩, _⟩ := blk_cells3 h
  match j, hu with
  | 0, hu => simp at hu; subst hu; exact h0
  | 1, hu => simp at hu; subst hu; exact h1
  | 2, hu => simp at hu; subst hu; exact h2
  | j + 3, hu => simp at hu
theorem ownsRow_keep {w w' : World} {base size n : Nat} {e : TypeId} {v : Value} {xs : List Value} (h : w.ownsRow base e size v n xs) (hb : Below w.heap.size w w') : w'.ownsRow base e size v n xs := by
  obtain ⟨h1, h2⟩ := h
  refine ⟨h1, ?_⟩
  rcases h2 with h2 | ⟨g, cap, cur, hv, hg, hh, r⟩
  · exact Or.inl h2
  · exact Or.inr ⟨g, cap, cur, hv, hg, blk_keep hh hb, r⟩

set_option maxHeartbeats 1000000 in
theorem down_ok (tz tx ty : Int) (w : World) (h : Cv.okB tz tx ty = true) (c : tz < 26) :
    Calls Try.prog 36 #[.agg #[.int .i64 tz, .int .i64 tx, .int .i64 ty]] w fun e w' => DownPost 44 (Cv.dl tz tx ty) (Cv.de tz tx ty) w e w' := by
  obtain ⟨⟨hz0, hz1⟩, _⟩ := Cv.ok_in h
  have hB : Cv.rB tz tx ty (tz + 1) = true := by unfold Cv.rB; rw [h, decide_eq_true (show tz ≤ tz + 1 ∧ tz + 1 ≤ 26 by omega)]; rfl
  obtain ⟨f0, f1⟩ := (Cv.rf_bd tz tx ty (tz + 1)).resolve_right (by rw [hB]; decide)
  rw [show (tz + 1 - tz).toNat = 1 by omega] at f1
  have e3 : Cv.re tz tx ty (tz + 1) = 0 := by unfold Cv.re; rw [h, if_pos rfl, if_pos (by omega)]
  have e2 : Cv.rt tz tx ty (tz + 1) = Cv.rf tz tx ty (tz + 1) + 3 := by unfold Cv.rt; rw [if_pos hB, show (tz + 1 - tz).toNat = 1 by omega]; simp; omega
  have hd : Cv.dl tz tx ty = Cv.tls (Cv.rf tz tx ty (tz + 1)) 4 := by unfold Cv.dl Cv.dB; rw [h, decide_eq_true c]; rfl
  have hde : Cv.de tz tx ty = 0 := by unfold Cv.de; rw [h, if_pos rfl, if_pos c]
  rw [hd, hde]
  obtain ⟨R, hR⟩ : ∃ R, R = Cv.rf tz tx ty (tz + 1) := ⟨_, rfl⟩
  have hr := fun w => range_any tz tx ty (tz + 1) w
  rw [e3, e2, ← hR] at hr
  rw [← hR] at f0 f1 ⊢
  have HR := Lib.hid hr
  have f2 : R ≤ 18014398509481984 - 4 := by simp at f1; omega
  clear e2 e3 hd hde hB h hr hR f1
  obtain ⟨i0, hi, iz0, iz1, iz2⟩ := info_parts tile_info
  go_enter Try.func36, Try.ntmps36
  go_wp2_with fail
  refine (HR.out _).mono ?_; rintro e w1 ⟨rfl, hb1⟩
  have hw1 := bthen ((Below.refl w.heap.size w).alloc (Nat.le_refl _) _) hb1
  clear hb1
  go_wp2_with fail
  go_loopw [9, 10] (fun cv ci wr => ∃ k : Nat, k ≤ 4 ∧ ci = .int .u64 (R + k) ∧ TilesAt wr w.heap.size 44 cv (Cv.tls R k) ∧ Below w.heap.size w wr) (fun _ ci _ => (R + 4 - intOf ci).toNat)
  case atStart => exact ⟨0, by omega, by simp, World.ownsRow_nil _ _ _ _, hw1⟩
  case round =>
    obtain ⟨k, hk, rfl, hT, hbl⟩ := hrel
    clear hw1
    by_cases hlt : k < 4
    · go_wp2_with fail
      refine (of_any _ (by omega) (by omega) _).mono ?_; rintro e w2 ⟨rfl, hb2⟩
      have hw2 := bthen hbl hb2
      have hT2 := ownsRow_keep hT hb2
      rw [Cv.tls_len] at hT2
      have hlt2 := hT2.lt
      have HT := Lib.hid hT
      clear hT
      go_wp2_with (at_builtin; go_must (refine wpList_append_own _ rfl (.tmp 43) (.tmp 45) _ rfl w.heap.size 44 i0 _ 3 24 Try.underlying61 hi iz0 iz1 iz2 rfl (by omega) _ k (tcells (Cv.tls R k)) rfl ((hT2.alloc _).alloc _) ⟨w2.heap.size + 1, 0, none⟩ 1 1 [.int .i64 (Cv.oz (R + k)), .int .i64 (Cv.ox (R + k)), .int .i64 (Cv.oy (R + k))] rfl rfl ?c1 ?c2 ?c3 ?c4 ?c5 ?_))
      case c1 =>
        have hnew := heap_alloc_new (w2.alloc (.cells #[.int .i64 (Cv.oz (R + k)), .int .i64 (Cv.ox (R + k)), .int .i64 (Cv.oy (R + k))] 44)) (.cells #[.int .i64 (Cv.oz (R + k)), .int .i64 (Cv.ox (R + k)), .int .i64 (Cv.oy (R + k))] 44)
        rw [World.size_alloc] at hnew
        exact blk_news3 hnew
      case c2 => intro u hu; simp at hu; rcases hu with rfl | rfl | rfl <;> rfl
      case c3 => simp only [maxLen]; omega
      case c4 => omega
      case c5 => have := hw2.size; simp; omega
      intro v' w3 hown3 hgrow3 _
      have hS : w.heap.size ≤ w2.heap.size := hw2.size
      have hb3 : Below w.heap.size w w3 := ((hw2.alloc hS _).alloc (by simp; omega) _).grown hgrow3 (by simp; omega) (fun g hg => (hlt2 g hg).1)
      have hT3 : TilesAt w3 w.heap.size 44 v' (Cv.tls R (k + 1)) := by
        unfold TilesAt
        rw [Cv.tls_len, Cv.tls, tcells_snoc]
        exact hown3
      clear hown3 hgrow3 hlt2 hT2
      go_wp2_with fail
      exact ⟨⟨k + 1, by omega, congrArg (Value.int .u64) (by omega), hT3, hb3⟩, by simp [intOf]; omega⟩
    · have hk4 : k = 4 := by omega
      subst hk4
      go_wp2_with fail
      go_ret2
      exact ⟨_, rfl, hT, hbl⟩

theorem down_not (tz tx ty : Int) (w : World) (h : Cv.dB tz tx ty = false) :
    Calls Try.prog 36 #[.agg #[.int .i64 tz, .int .i64 tx, .int .i64 ty]] w fun e w' => e = .returned (.tuple #[.slice none 0 0, .int .i64 (Cv.de tz tx ty)]) ∧ Below w.heap.size w w' := by
  rcases Bool.eq_false_or_eq_true (Cv.okB tz tx ty) with k | k
  · have hc : ¬ tz < 26 := by
      intro c
      unfold Cv.dB at h
      rw [k, decide_eq_true c] at h
      cases h
    obtain ⟨⟨hz0, hz1⟩, _⟩ := Cv.ok_in k
    have e3 : Cv.re tz tx ty (tz + 1) = 8 := by unfold Cv.re; rw [k, if_pos rfl, if_neg (by omega)]
    have hde : Cv.de tz tx ty = 6 := by unfold Cv.de; rw [k, if_pos rfl, if_neg hc]
    have hpe := Cv.pe_ok k
    rw [hde]
    clear hde k h hc
    go_enter Try.func36, Try.ntmps36
    go_wp2_with fail
    refine (range_any _ _ _ _ _).mono ?_; rintro e w1 ⟨rfl, hb1⟩
    obtain ⟨hA, hs1, hw1⟩ := blk_one hb1
    obtain ⟨⟨a0, a1, a2⟩, _⟩ := blk_cells3 hA
    clear hA
    go_wp2_with fail
    refine (id_any _ _ _ _).mono ?_; rintro e w2 ⟨rfl, hb2⟩
    have hw2 := bthen hw1 hb2
    go_wp2_with fail
    go_ret2
    exact ⟨rfl, hw2⟩
  · have hde : Cv.de tz tx ty = Cv.pe tz tx ty := by unfold Cv.de; rw [k]; rfl
    have e3 : ∀ z, Cv.re tz tx ty z = Cv.pe tz tx ty := fun z => by unfold Cv.re; rw [k]; rfl
    have hpe : (Cv.pe tz tx ty != 0) = true := by rcases Cv.pe_not k with q | q <;> rw [q] <;> rfl
    have hpe2 : (Cv.pe tz tx ty == 0) = false := by rcases Cv.pe_not k with q | q <;> rw [q] <;> rfl
    rw [hde]
    clear hde k h
    go_enter Try.func36, Try.ntmps36
    go_wp2_with fail
    refine (range_any _ _ _ _ _).mono ?_; rintro e w1 ⟨rfl, hb1⟩
    obtain ⟨hA, hs1, hw1⟩ := blk_one hb1
    obtain ⟨⟨a0, a1, a2⟩, _⟩ := blk_cells3 hA
    clear hA
    go_wp2_with fail
    refine (id_any _ _ _ _).mono ?_; rintro e w2 ⟨rfl, hb2⟩
    have hw2 := bthen hw1 hb2
    go_wp2_with fail
    go_ret2
    exact ⟨rfl, hw2⟩

theorem down_any (tz tx ty : Int) (w : World) :
    Calls Try.prog 36 #[.agg #[.int .i64 tz, .int .i64 tx, .int .i64 ty]] w fun e w' => DownPost 44 (Cv.dl tz tx ty) (Cv.de tz tx ty) w e w' := by
  rcases Bool.eq_false_or_eq_true (Cv.dB tz tx ty) with h | h
  · have h' := h
    unfold Cv.dB at h'
    rw [Bool.and_eq_true] at h'
    exact down_ok tz tx ty w h'.1 (of_decide_eq_true h'.2)
  · have e : Cv.dl tz tx ty = [] := by unfold Cv.dl; rw [h]; rfl
    rw [e]
    exact (down_not tz tx ty w h).mono fun _ _ hh => ⟨_, hh.1, World.ownsRow_nil _ _ _ _, hh.2⟩

end Go.Proofs.Ytdipincjginmcaa
