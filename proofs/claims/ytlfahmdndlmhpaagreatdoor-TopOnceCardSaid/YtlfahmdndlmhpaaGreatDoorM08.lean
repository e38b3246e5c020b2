/- Lists of entries in memory, and what the document says of them. What lists of entries are told of: how many tiles, where they end, how many contents, sameness: plain. The walks of Own and Back: a copy of entries in the call's own row. -/
import Derived.Test.YtlfahmdndlmhpaaGreatDoorM04
import Derived.Test.YtlfahmdndlmhpaaGreatDoorM07
import Derived.Deep.AppendLies
import Derived.Deep.DeepMust
namespace Go.Proofs.YtlfahmdndlmhpaaGreatDoor
open Go.RowKit

abbrev Ent := Int × Int × Int × Int
def En.vals (e : Ent) : List Value := [.int .u64 e.1, .int .u64 e.2.1, .int .u32 e.2.2.1, .int .u32 e.2.2.2]
def ecells (L : List Ent) : List Value := L.flatMap En.vals
def En.good (e : Ent) : Prop := En.fit e.1 e.2.1 e.2.2.1 e.2.2.2
def En.fits (L : List Ent) : Prop := ∀ e ∈ L, En.good e
def En.c (e : Ent) : Int := En.ck e.1 e.2.1 e.2.2.1 e.2.2.2
def En.l (e : Ent) : Int := En.la e.1 e.2.1 e.2.2.1 e.2.2.2

theorem ecells_len (L : List Ent) : (ecells L).length = L.length * 4 := by
  induction L with
  | nil => rfl
  | cons e L ih => unfold ecells at *; rw [List.flatMap_cons, List.length_append, ih]; simp [En.vals]; omega
theorem ecells_get (L : List Ent) : ∀ (k j : Nat) (hk : k < L.length), j < 4 → (ecells L)[k * 4 + j]? = (En.vals (L[k]'hk))[j]? := by
  induction L with
  | nil => intro k j hk; simp at hk
  | cons e L ih =>
    intro k j hk hj
    unfold ecells at *
    rw [List.flatMap_cons, List.getElem?_append]
    have hl : (En.vals e).length = 4 := rfl
    cases k with
    | zero => rw [if_pos (by omega)]; simp
    | succ k =>
      rw [if_neg (by omega), hl, show (k + 1) * 4 + j - 4 = k * 4 + j by omega]
      exact ih k j (by simpa using hk) hj
theorem ecells_append (L M : List Ent) : ecells (L ++ M) = ecells L ++ ecells M := by unfold ecells; simp
theorem ecells_take (L : List Ent) : ∀ m, (ecells L).take (m * 4) = ecells (L.take m) := by
  induction L with
  | nil => intro m; simp [ecells]
  | cons e L ih =>
    intro m
    cases m with
    | zero => simp [ecells]
    | succ m =>
      have h := ih m
      unfold ecells at *
      rw [List.flatMap_cons, List.take_append, List.take_of_length_le (by show 4 ≤ _; omega), show (m + 1) * 4 - (En.vals e).length = m * 4 by show (m + 1) * 4 - 4 = _; omega, h, List.take_succ_cons, List.flatMap_cons]
theorem ecells_drop (L : List Ent) : ∀ m, (ecells L).drop (m * 4) = ecells (L.drop m) := by
  induction L with
  | nil => intro m; simp [ecells]
  | cons e L ih =>
    intro m
    cases m with
    | zero => simp [ecells]
    | succ m =>
      have h := ih m
      unfold ecells at *
      rw [List.flatMap_cons, List.drop_append, List.drop_of_length_le (by show 4 ≤ _; omega), show (m + 1) * 4 - (En.vals e).length = m * 4 by show (m + 1) * 4 - 4 = _; omega, h, List.drop_succ_cons]
      rfl
theorem ecells_one (L : List Ent) : ∀ u ∈ ecells L, u.oneCell' = true := by
  intro u hu
  unfold ecells at hu
  obtain ⟨e, _, he⟩ := List.mem_flatMap.1 hu
  simp only [En.vals, List.mem_cons, List.not_mem_nil, or_false] at he
  rcases he with rfl | rfl | rfl | rfl <;> rfl

/-- a slice that reads as entries -/
def Ents (w : World) (B : Nat) (v : Value) (L : List Ent) : Prop :=
  ∃ A cap, v = .slice A L.length cap ∧ L.length ≤ cap ∧ Reads w B 4 A L.length (ecells L)
theorem Ents.cell {w : World} {B : Nat} {A : Option Addr} {L : List Ent} (h : Reads w B 4 A L.length (ecells L)) (k : Nat) (hk : k < L.length) :
    ∃ ad, A = some ad ∧ ad.block < B ∧ w.cell? (ad.add (k * 4)) = some (.int .u64 (L[k]'hk).1) ∧ w.cell? (ad.add (k * 4 + 1)) = some (.int .u64 (L[k]'hk).2.1) ∧ w.cell? (ad.add (k * 4 + 2)) = some (.int .u32 (L[k]'hk).2.2.1) ∧ w.cell? (ad.add (k * 4 + 3)) = some (.int .u32 (L[k]'hk).2.2.2) := by
  obtain ⟨ad, rfl, hb, hc⟩ := h.2 (by omega)
  refine ⟨ad, rfl, hb, hc _ _ ?_, hc _ _ ?_, hc _ _ ?_, hc _ _ ?_⟩
  · exact (ecells_get L k 0 hk (by omega)).trans rfl
  · exact (ecells_get L k 1 hk (by omega)).trans rfl
  · exact (ecells_get L k 2 hk (by omega)).trans rfl
  · exact (ecells_get L k 3 hk (by omega)).trans rfl
/-- the same, at a plain address -/
theorem Reads.plain {w : World} {B n : Nat} {A : Option Addr} {L : List Ent} (h : Reads w B 4 A n (ecells L)) (h0 : 0 < n) (hn : n = L.length) :
    ∃ g off, A = some ⟨g, off, none⟩ ∧ g < B := by
  subst hn
  obtain ⟨ad, rfl, hb, c0, _⟩ := Ents.cell h 0 h0
  have hs := World.cell?_spot c0
  obtain ⟨g, off, s⟩ := ad
  refine ⟨g, off, ?_, hb⟩
  have : s = none := by simpa [Addr.add] using hs
  rw [this]
theorem Reads.ent {w : World} {B n g off : Nat} {L : List Ent} (h : Reads w B 4 (some ⟨g, off, none⟩) n (ecells L)) (hn : n = L.length) (k : Nat) (hk : k < L.length) :
    w.cell? ⟨g, off + k * 4, none⟩ = some (.int .u64 (L[k]'hk).1) ∧ w.cell? ⟨g, off + k * 4 + 1, none⟩ = some (.int .u64 (L[k]'hk).2.1) ∧ w.cell? ⟨g, off + k * 4 + 2, none⟩ = some (.int .u32 (L[k]'hk).2.2.1) ∧ w.cell? ⟨g, off + k * 4 + 3, none⟩ = some (.int .u32 (L[k]'hk).2.2.2) := by
  subst hn
  obtain ⟨ad, e, hb, c0, c1, c2, c3⟩ := Ents.cell h k hk
  injection e with e
  subst e
  have ha : ∀ m, (⟨g, off, none⟩ : Addr).add m = ⟨g, off + m, none⟩ := by
    intro m
    unfold Addr.add
    by_cases hm : m = 0
    · subst hm; rfl
    · rw [if_neg hm]
  rw [ha] at c0 c1 c2 c3
  exact ⟨c0, c1, c2, c3⟩

end Go.Proofs.YtlfahmdndlmhpaaGreatDoor
namespace Go.Proofs.YtlfahmdndlmhpaaGreatDoor
open Go.RowKit

def En.addC (n : Int) (e : Ent) : Int := if En.c e = 0 then n + e.2.2.2 else n
def En.cnt (L : List Ent) : Int := L.foldl En.addC 0
def En.maxE (n : Int) (e : Ent) : Int := if En.c e = 0 then (if n < e.2.1 + e.2.2.1 then e.2.1 + e.2.2.1 else n) else n
def En.fin (L : List Ent) : Int := L.foldl En.maxE 0
def En.p (e : Ent) : Bool := decide (En.c e = 0 ∧ 0 < e.2.2.2)
def En.key (e : Ent) : Int × Int := (e.2.1, e.2.2.1)
def En.addK (ks : List (Int × Int)) (e : Ent) : List (Int × Int) := if En.p e = true ∧ En.key e ∉ ks then ks ++ [En.key e] else ks
def En.keys (L : List Ent) : List (Int × Int) := L.foldl En.addK []
def En.con (L : List Ent) : Int := (En.keys L).length

theorem take_snoc {α : Type} (L : List α) (k : Nat) (h : k < L.length) : L.take (k + 1) = L.take k ++ [L[k]'h] := by
  rw [List.take_succ_eq_append_getElem h]
theorem En.cnt_step (L : List Ent) (k : Nat) (h : k < L.length) : En.cnt (L.take (k + 1)) = En.addC (En.cnt (L.take k)) (L[k]'h) := by
  rw [take_snoc L k h, En.cnt, List.foldl_append]; rfl
theorem En.fin_step (L : List Ent) (k : Nat) (h : k < L.length) : En.fin (L.take (k + 1)) = En.maxE (En.fin (L.take k)) (L[k]'h) := by
  rw [take_snoc L k h, En.fin, List.foldl_append]; rfl
theorem En.keys_step (L : List Ent) (k : Nat) (h : k < L.length) : En.keys (L.take (k + 1)) = En.addK (En.keys (L.take k)) (L[k]'h) := by
  rw [take_snoc L k h, En.keys, List.foldl_append]; rfl

theorem En.addK_mem (ks : List (Int × Int)) (e : Ent) (q : Int × Int) : q ∈ En.addK ks e ↔ q ∈ ks ∨ (En.p e = true ∧ En.key e = q) := by
  unfold En.addK
  by_cases h : En.p e = true ∧ En.key e ∉ ks
  · rw [if_pos h, List.mem_append, List.mem_singleton]
    constructor
    · rintro (h1 | h1)
      · exact Or.inl h1
      · exact Or.inr ⟨h.1, h1.symm⟩
    · rintro (h1 | ⟨_, h1⟩)
      · exact Or.inl h1
      · exact Or.inr h1.symm
  · rw [if_neg h]
    constructor
    · exact Or.inl
    · rintro (h1 | ⟨h1, h2⟩)
      · exact h1
      · rcases Decidable.em (En.key e ∈ ks) with h3 | h3
        · rw [← h2]; exact h3
        · exact absurd ⟨h1, h3⟩ h
theorem En.addK_nodup (ks : List (Int × Int)) (e : Ent) (h : ks.Nodup) : (En.addK ks e).Nodup := by
  unfold En.addK
  by_cases c : En.p e = true ∧ En.key e ∉ ks
  · rw [if_pos c]
    refine List.nodup_append.2 ⟨h, by simp, fun a ha b hb e1 => ?_⟩
    rw [List.mem_singleton] at hb
    subst hb
    subst e1
    exact c.2 ha
  · rw [if_neg c]; exact h
theorem En.fold_mem (L : List Ent) : ∀ (ks : List (Int × Int)) (q : Int × Int), q ∈ L.foldl En.addK ks ↔ q ∈ ks ∨ ∃ e ∈ L, En.p e = true ∧ En.key e = q := by
  induction L with
  | nil => intro ks q; simp
  | cons e L ih =>
    intro ks q
    rw [List.foldl_cons, ih, En.addK_mem]
    simp only [List.mem_cons]
    constructor
    · rintro ((h | h) | ⟨e', h, h'⟩)
      · exact Or.inl h
      · exact Or.inr ⟨e, Or.inl rfl, h⟩
      · exact Or.inr ⟨e', Or.inr h, h'⟩
    · rintro (h | ⟨e', (rfl | h), h'⟩)
      · exact Or.inl (Or.inl h)
      · exact Or.inl (Or.inr h')
      · exact Or.inr ⟨e', h, h'⟩
theorem En.fold_nodup (L : List Ent) : ∀ (ks : List (Int × Int)), ks.Nodup → (L.foldl En.addK ks).Nodup := by
  induction L with
  | nil => intro ks h; exact h
  | cons e L ih => intro ks h; exact ih _ (En.addK_nodup ks e h)
theorem En.keys_mem (L : List Ent) (q : Int × Int) : q ∈ En.keys L ↔ ∃ e ∈ L, En.p e = true ∧ En.key e = q := by
  unfold En.keys; rw [En.fold_mem]; simp
theorem En.keys_nodup (L : List Ent) : (En.keys L).Nodup := En.fold_nodup L [] (by simp)
theorem En.addK_len (ks : List (Int × Int)) (e : Ent) : (En.addK ks e).length ≤ ks.length + 1 := by
  unfold En.addK
  split
  · simp
  · omega
theorem En.keys_len (L : List Ent) (k : Nat) (hk : k ≤ L.length) : (En.keys (L.take k)).length ≤ k := by
  induction k with
  | zero => simp [En.keys]
  | succ k ih =>
    rw [En.keys_step L k (by omega)]
    have := En.addK_len (En.keys (L.take k)) (L[k]'(by omega))
    have := ih (by omega)
    omega

theorem nodup_le {α : Type} [DecidableEq α] (xs : List α) : ∀ (ys : List α), xs.Nodup → (∀ x ∈ xs, x ∈ ys) → xs.length ≤ ys.length := by
  induction xs with
  | nil => intro ys _ _; simp
  | cons x xs ih =>
    intro ys hn hs
    obtain ⟨h1, h2⟩ := List.nodup_cons.1 hn
    have hx : x ∈ ys := hs x (by simp)
    have := ih (ys.erase x) h2 (fun z hz => by
      have hzy := hs z (List.mem_cons_of_mem _ hz)
      refine (List.mem_erase_of_ne ?_).2 hzy
      rintro rfl
      exact h1 hz)
    have hl := List.length_erase_of_mem hx
    have h0 : 0 < ys.length := List.length_pos_of_mem hx
    simp only [List.length_cons]
    omega
theorem En.con_le {L M : List Ent} (h : ∀ q, q ∈ En.keys L → q ∈ En.keys M) : En.con L ≤ En.con M := by
  have := nodup_le _ _ (En.keys_nodup L) h
  unfold En.con
  omega
theorem En.keys_app (L M : List Ent) (q : Int × Int) : q ∈ En.keys (L ++ M) ↔ q ∈ En.keys L ∨ q ∈ En.keys M := by
  simp only [En.keys_mem, List.mem_append]
  constructor
  · rintro ⟨e, (h | h), h'⟩
    · exact Or.inl ⟨e, h, h'⟩
    · exact Or.inr ⟨e, h, h'⟩
  · rintro (⟨e, h, h'⟩ | ⟨e, h, h'⟩)
    · exact ⟨e, Or.inl h, h'⟩
    · exact ⟨e, Or.inr h, h'⟩
theorem En.con_left (L M : List Ent) : En.con L ≤ En.con (L ++ M) := En.con_le fun q hq => (En.keys_app L M q).2 (Or.inl hq)
theorem En.con_right (L M : List Ent) : En.con M ≤ En.con (L ++ M) := En.con_le fun q hq => (En.keys_app L M q).2 (Or.inr hq)
theorem En.con_sum (L M : List Ent) : En.con (L ++ M) ≤ En.con L + En.con M := by
  have := nodup_le (En.keys (L ++ M)) (En.keys L ++ En.keys M) (En.keys_nodup _) (fun q hq => List.mem_append.2 ((En.keys_app L M q).1 hq))
  unfold En.con
  rw [List.length_append] at this
  omega
theorem En.con_again (L M : List Ent) : En.con ((L ++ M) ++ L) = En.con (L ++ M) := by
  have h1 := En.con_left (L ++ M) L
  have h2 : En.con ((L ++ M) ++ L) ≤ En.con (L ++ M) := En.con_le fun q hq => by
    rcases (En.keys_app _ _ q).1 hq with h | h
    · exact h
    · exact (En.keys_app _ _ q).2 (Or.inl h)
  omega
theorem En.cnt_fold (L : List Ent) : ∀ n, L.foldl En.addC n = n + En.cnt L := by
  induction L with
  | nil => intro n; simp [En.cnt]
  | cons e L ih =>
    intro n
    unfold En.cnt
    rw [List.foldl_cons, List.foldl_cons, ih, ih (En.addC 0 e)]
    unfold En.addC
    split <;> omega
theorem En.cnt_app (L M : List Ent) : En.cnt (L ++ M) = En.cnt L + En.cnt M := by
  unfold En.cnt
  rw [List.foldl_append, En.cnt_fold M]
  rfl
theorem En.fin_fold (L : List Ent) : ∀ n, 0 ≤ n → L.foldl En.maxE n = max n (En.fin L) := by
  induction L with
  | nil => intro n h; simp [En.fin]; omega
  | cons e L ih =>
    intro n h
    have h0 : 0 ≤ En.maxE 0 e := by unfold En.maxE; split <;> (try split) <;> omega
    have h1 : 0 ≤ En.maxE n e := by unfold En.maxE; split <;> (try split) <;> omega
    unfold En.fin
    rw [List.foldl_cons, List.foldl_cons, ih _ h1, ih _ h0]
    unfold En.maxE
    by_cases c : En.c e = 0
    · simp only [if_pos c]
      by_cases c1 : n < e.2.1 + e.2.2.1 <;> by_cases c2 : 0 < e.2.1 + e.2.2.1 <;> simp only [c1, c2, if_true, if_false] <;> omega
    · simp only [if_neg c]; omega
theorem En.fin_ge (L : List Ent) : 0 ≤ En.fin L := by
  have := En.fin_fold L 0 (by omega)
  unfold En.fin at *
  omega
theorem En.fin_app (L M : List Ent) : En.fin (L ++ M) = max (En.fin L) (En.fin M) := by
  unfold En.fin
  rw [List.foldl_append]
  exact En.fin_fold M _ (En.fin_ge L)
theorem En.ck_end {i o l r : Int} (h : En.ck i o l r = 0) : o + l ≤ 1099511627776 := by
  unfold En.ck at h
  split at h
  · omega
  · split at h
    · omega
    · split at h <;> omega

end Go.Proofs.YtlfahmdndlmhpaaGreatDoor
namespace Go.Proofs.YtlfahmdndlmhpaaGreatDoor
open Go.RowKit

theorem ent_info : (Tryz.prog.info? 43).map (fun i => (i.zero, i.size, i.bytes)) = some (some (.agg #[.int .u64 0, .int .u64 0, .int .u32 0, .int .u32 0]), 4, 24) := by kernel_rfl
/-- a fresh row that holds entries -/
def OwnPost (E : TypeId) (L : List Ent) (w : World) (e : Ending) (w' : World) : Prop :=
  ∃ v, e = .returned v ∧ w'.ownsRow w.heap.size E 4 v L.length (ecells L) ∧ Below w.heap.size w w'
theorem blk_news4 {w : World} {g : Nat} {a b c d : Value} {t : TypeId} (h : w.heap[g]? = some (.cells #[a, b, c, d] t (0, 0))) : ∀ j u, [a, b, c, d][j]? = some u → w.cell? ((⟨g, 0, none⟩ : Addr).add j) = some u := by
  intro j u hu
  obtain ⟨h0, h1, h2, h3⟩ := blk_cells4 h
  match j, hu with
  | 0, hu => simp at hu; subst hu; exact h0
  | 1, hu => simp at hu; subst hu; exact h1
  | 2, hu => simp at hu; subst hu; exact h2
  | 3, hu => simp at hu; subst hu; exact h3
  | j + 4, hu => simp at hu
theorem ownsRow_keep {w w' : World} {base size n : Nat} {e : TypeId} {v : Value} {xs : List Value} (h : w.ownsRow base e size v n xs) (hb : Below w.heap.size w w') : w'.ownsRow base e size v n xs := by
  obtain ⟨h1, h2⟩ := h
  refine ⟨h1, ?_⟩
  rcases h2 with h2 | ⟨g, cap, cur, hv, hg, hh, r⟩
  · exact Or.inl h2
  · exact Or.inr ⟨g, cap, cur, hv, hg, blk_keep hh hb, r⟩
/-- an own row's value is a slice of so many -/
theorem own_slice {w : World} {base size n : Nat} {e : TypeId} {v : Value} {xs : List Value} (h : w.ownsRow base e size v n xs) : ∃ A c, v = .slice A n c ∧ n ≤ c := by
  rcases h.2 with ⟨rfl, rfl⟩ | ⟨g, cap, cur, rfl, _, _, hc, _⟩
  · exact ⟨none, 0, rfl, Nat.le_refl _⟩
  · exact ⟨_, _, rfl, hc⟩
theorem ecells_snoc (L : List Ent) (k : Nat) (h : k < L.length) : ecells (L.take (k + 1)) = ecells (L.take k) ++ En.vals (L[k]'h) := by
  rw [take_snoc L k h, ecells_append]; simp [ecells]
end Go.Proofs.YtlfahmdndlmhpaaGreatDoor
