/- The walk of curve.Point: the tile of any place, or why there is none. -/
import Derived.Test.YtdipincjginmcaaDoorCurvePlaceOk
import Derived.Test.YtdipincjginmcaaDoorRefCurve
namespace Go.Proofs.YtdipincjginmcaaDoor
open Go.RowKit

theorem u64bit2 (a m : Nat) (ha : a < 18446744073709551616) : bits .and .u64 ((a : Int) / 2 ^ m) 3 = ((a / 2 ^ m % 4 : Nat) : Int) := by
  have h : a / 2 ^ m < 18446744073709551616 := Nat.lt_of_le_of_lt (Nat.div_le_self _ _) ha
  have e : ((a : Int) / 2 ^ m) = ((a / 2 ^ m : Nat) : Int) := by simp
  have h1 := u64_and_nat (a / 2 ^ m) 3 h (by omega)
  rw [nat_mask2] at h1
  rw [e]
  exact h1
theorem u64or0 (x : Nat) (hx : x < 18446744073709551616) : bits .or .u64 (x : Int) 0 = (x : Int) := by
  have h := u64_or_nat x 0 hx (by omega)
  rw [Nat.or_zero] at h
  exact h
theorem u64orpow (x k : Nat) (hk : k ≤ 26) (hx : x < 2 ^ k) : bits .or .u64 (x : Int) (IntKind.u64.wrap ((2 : Int) ^ k)) = ((x + 2 ^ k : Nat) : Int) := by
  have h2 := two26 k hk
  rw [u64pow k (by omega), u64_or_nat _ _ (by omega) (by omega), Nat.or_comm, nat_join k (2 ^ k) x (Nat.mod_self _) hx, Nat.add_comm]

/-- a round's numbers: one digit of the way back -/
theorem Cv.point_round (k d p : Nat) (sw mi : Bool) (hp : p = d / 2 ^ (2 * k) % 4) (a b : Nat) (ha : a = (Cv.point k d).1) (hb : b = (Cv.point k d).2)
    (hs : (p = 0 ∧ sw = true ∧ mi = false) ∨ (p = 1 ∧ sw = false ∧ mi = false) ∨ (p = 2 ∧ sw = false ∧ mi = false) ∨ (p = 3 ∧ sw = true ∧ mi = true)) :
    (Cv.turn sw mi k a b).1 < 2 ^ k ∧ (Cv.turn sw mi k a b).2 < 2 ^ k ∧
      (Cv.turn sw mi k a b).1 + (if p = 2 ∨ p = 3 then 2 ^ k else 0) = (Cv.point (k + 1) d).1 ∧ (Cv.turn sw mi k a b).2 + (if p = 1 ∨ p = 2 then 2 ^ k else 0) = (Cv.point (k + 1) d).2 := by
  have hl := Cv.point_lt k d
  rw [← ha, ← hb] at hl
  have h2 := Cv.pow_pos2 k
  rw [Nat.pow_mul] at hp
  have hs2 : Cv.point (k + 1) d = Cv.lay k p a b := by rw [Cv.point, Cv.point_mod, ← hp, ha, hb]
  have ma : a % 2 ^ k = a := Nat.mod_eq_of_lt hl.1
  have mb : b % 2 ^ k = b := Nat.mod_eq_of_lt hl.2
  rw [hs2]
  clear hs2 hp ha hb
  rcases hs with ⟨rfl, rfl, rfl⟩ | ⟨rfl, rfl, rfl⟩ | ⟨rfl, rfl, rfl⟩ | ⟨rfl, rfl, rfl⟩ <;> simp [Cv.turn, Cv.lay, ma, mb] <;> omega

theorem point_or0 (x k r : Nat) (hk : k ≤ 26) (hx : x < 2 ^ k) (h : x + 0 = r) : bits .or .u64 (x : Int) 0 = (r : Int) := by
  have := two26 k hk
  rw [u64or0 x (by omega), ← h, Nat.add_zero]
theorem point_or1 (x k r : Nat) (hk : k ≤ 26) (hx : x < 2 ^ k) (h : x + 2 ^ k = r) : bits .or .u64 (x : Int) (IntKind.u64.wrap ((2 : Int) ^ k)) = (r : Int) := by
  rw [u64orpow x k hk hx, h]

theorem world_round2 {w w1 wr w3 : World} {o : Obj} {cs : Array Value} {t : TypeId} (hbl : Below w.heap.size w wr) (hsz : w1.heap.size < wr.heap.size) (hb3 : Below (wr.alloc o).heap.size (wr.alloc o) w3)
    (h : wr.heap[w1.heap.size]? = some (.cells cs t (0, 0))) (n : Nat) : Below w.heap.size w (w3.drewN n) ∧ w1.heap.size < (w3.drewN n).heap.size ∧ (w3.drewN n).heap[w1.heap.size]? = some (.cells cs t (0, 0)) := by
  have s3 : (wr.alloc o).heap.size ≤ w3.heap.size := hb3.size
  have s1 : (wr.alloc o).heap.size = wr.heap.size + 1 := by simp
  have s0 := hbl.size
  have h1 : Below w.heap.size w w3 := (hbl.alloc s0 o).trans (hb3.mono (by omega))
  have h2 : w3.heap[w1.heap.size]? = some (.cells cs t (0, 0)) := (hb3.block _ (by omega)).trans ((Below.heap_alloc wr o _ hsz).trans h)
  have h3 : w1.heap.size < w3.heap.size := by omega
  exact ⟨⟨h1.os, h1.tape, h1.output, h1.size, h1.block⟩, h3, h2⟩

end Go.Proofs.YtdipincjginmcaaDoor
