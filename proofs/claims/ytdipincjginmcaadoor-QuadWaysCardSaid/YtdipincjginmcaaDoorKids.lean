/- Plain laws of the four kids of a tile, put in order. -/
import Derived.Test.YtdipincjginmcaaDoorTileSame
import Derived.Test.YtdipincjginmcaaDoorWords
namespace Go.Proofs.YtdipincjginmcaaDoor
open Go.RowKit

theorem Cv.kid_tile {tz tx ty : Int} (h : Cv.okB tz tx ty = true) (c : tz < 26) (i : Nat) (hi : i < 4) :
    Cv.okB (tz + 1) (2 * tx + (i : Int) % 2) (2 * ty + (i : Int) / 2) = true ∧
    Cv.tid (tz + 1) (2 * tx + (i : Int) % 2) (2 * ty + (i : Int) / 2) = Cv.rf tz tx ty (tz + 1) + (Cv.kq tz.toNat tx.toNat ty.toNat i : Int) ∧
    Cv.tl (Cv.rf tz tx ty (tz + 1) + (Cv.kq tz.toNat tx.toNat ty.toNat i : Int)) = (tz + 1, 2 * tx + (i : Int) % 2, 2 * ty + (i : Int) / 2) := by
  obtain ⟨k1, k2, k3⟩ := Cv.kid_in h c i hi
  have hB : Cv.rB tz tx ty (tz + 1) = true := by unfold Cv.rB; rw [h, decide_eq_true (by have := Cv.ok_in h; omega)]; rfl
  have e : Cv.rf tz tx ty (tz + 1) = Cv.bv (tz + 1) + 4 * Cv.pv tz tx ty := by
    unfold Cv.rf
    rw [if_pos hB, show (tz + 1 - tz).toNat = 1 by omega]
    simp
    omega
  have e2 : Cv.tid (tz + 1) (2 * tx + (i : Int) % 2) (2 * ty + (i : Int) / 2) = Cv.rf tz tx ty (tz + 1) + (Cv.kq tz.toNat tx.toNat ty.toNat i : Int) := by
    rw [Cv.tid_ok k1, e]
    omega
  obtain ⟨_, _, o1, o2, o3, _⟩ := Cv.of_tid k1
  rw [e2] at o1 o2 o3
  refine ⟨k1, e2, ?_⟩
  unfold Cv.tl
  rw [o1, o2, o3]

/-- the tiles of some places among the four -/
def Cv.qt (R : Int) (Q : List Nat) : List (Int × Int × Int) := Q.map fun (q : Nat) => Cv.tl (R + (q : Int))
theorem Cv.qt_len (R : Int) (Q : List Nat) : (Cv.qt R Q).length = Q.length := by simp [Cv.qt]
theorem Cv.qt_get (R : Int) (Q : List Nat) (i : Nat) (hi : i < (Cv.qt R Q).length) : (Cv.qt R Q)[i]'hi = Cv.tl (R + (Q[i]'(by rw [Cv.qt_len] at hi; exact hi) : Nat)) := by simp [Cv.qt]

/-- places in order, those of the first i kids -/
def Cv.srt (f : Nat → Nat) (i : Nat) (Q : List Nat) : Prop := Q.length = i ∧ Q.Pairwise (· < ·) ∧ ∀ q ∈ Q, ∃ j, j < i ∧ q = f j

theorem Cv.srt_ins (f : Nat → Nat) (i m : Nat) (Q : List Nat) (h : Cv.srt f i Q) (hm : m ≤ i) (hlo : ∀ j (hj : j < Q.length), j < m → Q[j] < f i) (hhi : ∀ j (hj : j < Q.length), m ≤ j → f i < Q[j]) :
    Cv.srt f (i + 1) (Q.take m ++ [f i] ++ Q.drop m) := by
  obtain ⟨h1, h2, h3⟩ := h
  refine ⟨by simp; omega, ?_, ?_⟩
  · rw [List.append_assoc, List.pairwise_append]
    refine ⟨h2.sublist (List.take_sublist _ _), ?_, ?_⟩
    · rw [List.singleton_append, List.pairwise_cons]
      refine ⟨?_, h2.sublist (List.drop_sublist _ _)⟩
      intro a ha
      obtain ⟨j, hj, rfl⟩ := List.getElem_of_mem ha
      rw [List.getElem_drop]
      exact hhi _ (by simp at hj; omega) (by omega)
    · intro a ha b hb
      obtain ⟨j, hj, rfl⟩ := List.getElem_of_mem ha
      have hjm : j < m := by simp at hj; omega
      have hjl : j < Q.length := by simp at hj; omega
      rw [List.getElem_take]
      rw [List.singleton_append, List.mem_cons] at hb
      have h4 := hlo j hjl hjm
      rcases hb with rfl | hb
      · exact h4
      · obtain ⟨j', hj', rfl⟩ := List.getElem_of_mem hb
        rw [List.getElem_drop]
        have := hhi (m + j') (by simp at hj'; omega) (by omega)
        omega
  · intro q hq
    simp only [List.mem_append, List.mem_singleton] at hq
    rcases hq with (hq | rfl) | hq
    · obtain ⟨j, hj, e⟩ := h3 q (List.mem_of_mem_take hq)
      exact ⟨j, by omega, e⟩
    · exact ⟨i, by omega, rfl⟩
    · obtain ⟨j, hj, e⟩ := h3 q (List.mem_of_mem_drop hq)
      exact ⟨j, by omega, e⟩

/-- four of four places in order are the four -/
theorem Cv.srt_four (f : Nat → Nat) (hf : ∀ j, f j < 4) (Q : List Nat) (h : Cv.srt f 4 Q) : Q = [0, 1, 2, 3] := by
  obtain ⟨h1, h2, h3⟩ := h
  match Q, h1 with
  | [a, b, c, d], _ =>
    simp only [List.pairwise_cons, List.mem_cons, List.not_mem_nil, or_false, forall_eq_or_imp, forall_eq] at h2
    obtain ⟨j, _, e⟩ := h3 d (by simp)
    have := hf j
    have : a = 0 := by omega
    have : b = 1 := by omega
    have : c = 2 := by omega
    have : d = 3 := by omega
    simp_all
theorem Cv.qt_four (R : Int) : Cv.qt R [0, 1, 2, 3] = Cv.tls R 4 := by simp [Cv.qt, Cv.tls]

theorem tcells_append (L M : List (Int × Int × Int)) : tcells (L ++ M) = tcells L ++ tcells M := by simp [tcells]
theorem tcells_take (L : List (Int × Int × Int)) : ∀ m, (tcells L).take (m * 3) = tcells (L.take m) := by
  induction L with
  | nil => intro m; simp [tcells]
  | cons t L ih =>
    intro m
    cases m with
    | zero => simp [tcells]
    | succ m =>
      have := ih m
      simp only [tcells, List.flatMap_cons, List.take_succ_cons] at *
      rw [show (m + 1) * 3 = m * 3 + 1 + 1 + 1 by omega]
      simp only [List.cons_append, List.nil_append, List.take_succ_cons]
      rw [this]
theorem tcells_drop (L : List (Int × Int × Int)) : ∀ m, (tcells L).drop (m * 3) = tcells (L.drop m) := by
  induction L with
  | nil => intro m; simp [tcells]
  | cons t L ih =>
    intro m
    cases m with
    | zero => simp [tcells]
    | succ m =>
      have := ih m
      simp only [tcells, List.flatMap_cons, List.drop_succ_cons] at *
      rw [show (m + 1) * 3 = m * 3 + 1 + 1 + 1 by omega]
      simp only [List.cons_append, List.nil_append, List.drop_succ_cons]
      rw [this]
theorem tcells_one (L : List (Int × Int × Int)) : ∀ u ∈ tcells L, u.oneCell' = true := by
  intro u hu
  simp only [tcells, List.mem_flatMap] at hu
  obtain ⟨t, _, hu⟩ := hu
  simp at hu
  rcases hu with rfl | rfl | rfl <;> rfl
theorem Cv.qt_take (R : Int) (Q : List Nat) (m : Nat) : (Cv.qt R Q).take m = Cv.qt R (Q.take m) := by simp [Cv.qt]
theorem Cv.qt_drop (R : Int) (Q : List Nat) (m : Nat) : (Cv.qt R Q).drop m = Cv.qt R (Q.drop m) := by simp [Cv.qt]
theorem Cv.qt_ins (R : Int) (Q : List Nat) (m q : Nat) (t : Int × Int × Int) (ht : Cv.tl (R + q) = t) :
    tcells (Cv.qt R (Q.take m)) ++ [.int .i64 t.1, .int .i64 t.2.1, .int .i64 t.2.2] ++ tcells (Cv.qt R (Q.drop m)) = tcells (Cv.qt R (Q.take m ++ [q] ++ Q.drop m)) := by
  subst ht
  simp [Cv.qt, tcells]

end Go.Proofs.YtdipincjginmcaaDoor
