/- Lists of entries in memory, and what the document says of them. -/
import Derived.Test.YtppciejcobmikaaEntMath
import Derived.Test.YtppciejcobmikaaWords
namespace Go.Proofs.Ytppciejcobmikaa
open Go.RowKit

abbrev Ent := Int × Int × Int × Int
def En.vals (e : Ent) : List Value := [.int .u64 e.1, .int .u64 e.2.1, .int .u32 e.2.2.1, .int .u32 e.2.2.2]
def ecells (L : List Ent) : List Value := L.flatMap En.vals
def En.good (e : Ent) : Prop := En.fit e.1 e.2.1 e.2.2.1 e.2.2.2
def En.fits (L : List Ent) : Prop := ∀ e ∈ L, En.good e
def En.c (e : Ent) : Int := En.ck e.1 e.2.1 e.2.2.1 e.2.2.2
def En.l (e : Ent) : Int := En.la e.1 e.2.1 e.2.2.1 e.2.2.2

theorem ecells_len (L : List Ent) : (ecells L).length = L.length * 4 := by
  induction L with
  | nil => rfl
  | cons e L ih => unfold ecells at *; rw [List.flatMap_cons, List.length_append, ih]; simp [En.vals]; omega
theorem ecells_get (L : List Ent) : ∀ (k j : Nat) (hk : k < L.length), j < 4 → (ecells L)[k * 4 + j]? = (En.vals (L[k]'hk))[j]? := by
  induction L with
  | nil => intro k j hk; simp at hk
  | cons e L ih =>
    intro k j hk hj
    unfold ecells at *
    rw [List.flatMap_cons, List.getElem?_append]
    have hl : (En.vals e).length = 4 := rfl
    cases k with
    | zero => rw [if_pos (by omega)]; simp
    | succ k =>
      rw [if_neg (by omega), hl, show (k + 1) * 4 + j - 4 = k * 4 + j by omega]
      exact ih k j (by simpa using hk) hj
theorem ecells_append (L M : List Ent) : ecells (L ++ M) = ecells L ++ ecells M := by unfold ecells; simp
theorem ecells_take (L : List Ent) : ∀ m, (ecells L).take (m * 4) = ecells (L.take m) := by
  induction L with
  | nil => intro m; simp [ecells]
  | cons e L ih =>
    intro m
    cases m with
    | zero => simp [ecells]
    | succ m =>
      have h := ih m
      unfold ecells at *
      rw [List.flatMap_cons, List.take_append, List.take_of_length_le (by show 4 ≤ _; omega), show (m + 1) * 4 - (En.vals e).length = m * 4 by show (m + 1) * 4 - 4 = _; omega, h, List.take_succ_cons, List.flatMap_cons]
theorem ecells_drop (L : List Ent) : ∀ m, (ecells L).drop (m * 4) = ecells (L.drop m) := by
  induction L with
  | nil => intro m; simp [ecells]
  | cons e L ih =>
    intro m
    cases m with
    | zero => simp [ecells]
    | succ m =>
      have h := ih m
      unfold ecells at *
      rw [List.flatMap_cons, List.drop_append, List.drop_of_length_le (by show 4 ≤ _; omega), show (m + 1) * 4 - (En.vals e).length = m * 4 by show (m + 1) * 4 - 4 = _; omega, h, List.drop_succ_cons]
      rfl
theorem ecells_one (L : List Ent) : ∀ u ∈ ecells L, u.oneCell' = true := by
  intro u hu
  unfold ecells at hu
  obtain ⟨e, _, he⟩ := List.mem_flatMap.1 hu
  simp only [En.vals, List.mem_cons, List.not_mem_nil, or_false] at he
  rcases he with rfl | rfl | rfl | rfl <;> rfl

/-- a slice that reads as entries -/
def Ents (w : World) (B : Nat) (v : Value) (L : List Ent) : Prop :=
  ∃ A cap, v = .slice A L.length cap ∧ L.length ≤ cap ∧ Reads w B 4 A L.length (ecells L)
theorem Ents.cell {w : World} {B : Nat} {A : Option Addr} {L : List Ent} (h : Reads w B 4 A L.length (ecells L)) (k : Nat) (hk : k < L.length) :
    ∃ ad, A = some ad ∧ ad.block < B ∧ w.cell? (ad.add (k * 4)) = some (.int .u64 (L[k]'hk).1) ∧ w.cell? (ad.add (k * 4 + 1)) = some (.int .u64 (L[k]'hk).2.1) ∧ w.cell? (ad.add (k * 4 + 2)) = some (.int .u32 (L[k]'hk).2.2.1) ∧ w.cell? (ad.add (k * 4 + 3)) = some (.int .u32 (L[k]'hk).2.2.2) := by
  obtain ⟨ad, rfl, hb, hc⟩ := h.2 (by omega)
  refine ⟨ad, rfl, hb, hc _ _ ?_, hc _ _ ?_, hc _ _ ?_, hc _ _ ?_⟩
  · exact (ecells_get L k 0 hk (by omega)).trans rfl
  · exact (ecells_get L k 1 hk (by omega)).trans rfl
  · exact (ecells_get L k 2 hk (by omega)).trans rfl
  · exact (ecells_get L k 3 hk (by omega)).trans rfl
/-- the same, at a plain address -/
theorem Reads.plain {w : World} {B n : Nat} {A : Option Addr} {L : List Ent} (h : Reads w B 4 A n (ecells L)) (h0 : 0 < n) (hn : n = L.length) :
    ∃ g off, A = some ⟨g, off, none⟩ ∧ g < B := by
  subst hn
  obtain ⟨ad, rfl, hb, c0, _⟩ := Ents.cell h 0 h0
  have hs := World.cell?_spot c0
  obtain ⟨g, off, s⟩ := ad
  refine ⟨g, off, ?_, hb⟩
  have : s = none := by simpa [Addr.add] using hs
  rw [this]
theorem Reads.ent {w : World} {B n g off : Nat} {L : List Ent} (h : Reads w B 4 (some ⟨g, off, none⟩) n (ecells L)) (hn : n = L.length) (k : Nat) (hk : k < L.length) :
    w.cell? ⟨g, off + k * 4, none⟩ = some (.int .u64 (L[k]'hk).1) ∧ w.cell? ⟨g, off + k * 4 + 1, none⟩ = some (.int .u64 (L[k]'hk).2.1) ∧ w.cell? ⟨g, off + k * 4 + 2, none⟩ = some (.int .u32 (L[k]'hk).2.2.1) ∧ w.cell? ⟨g, off + k * 4 + 3, none⟩ = some (.int .u32 (L[k]'hk).2.2.2) := by
  subst hn
  obtain ⟨ad, e, hb, c0, c1, c2, c3⟩ := Ents.cell h k hk
  injection e with e
  subst e
  have ha : ∀ m, (⟨g, off, none⟩ : Addr).add m = ⟨g, off + m, none⟩ := by
    intro m
    unfold Addr.add
    by_cases hm : m = 0
    · subst hm; rfl
    · rw [if_neg hm]
  rw [ha] at c0 c1 c2 c3
  exact ⟨c0, c1, c2, c3⟩

end Go.Proofs.Ytppciejcobmikaa
