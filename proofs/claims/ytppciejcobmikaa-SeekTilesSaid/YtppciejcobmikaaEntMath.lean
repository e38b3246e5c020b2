/- Entries: what the document says of one. -/
import Derived.Test.YtppciejcobmikaaBlk
namespace Go.Proofs.Ytppciejcobmikaa
open Go.RowKit

def En.wd (r : Int) : Int := if r = 0 then 1 else r
def En.ck (i o l r : Int) : Int := if l = 0 then 2 else if 6004799503160661 < i + En.wd r then 8 else if 1099511627776 < o + l then 8 else 0
def En.la (i o l r : Int) : Int := if En.ck i o l r = 0 then i + En.wd r - 1 else 0
def En.hs (i o l r id : Int) : Bool := decide (En.ck i o l r = 0 ∧ 0 < r ∧ i ≤ id ∧ id ≤ En.la i o l r)
/-- the fields fit -/
def En.fit (i o l r : Int) : Prop := (0 ≤ i ∧ i < 18446744073709551616) ∧ (0 ≤ o ∧ o < 18446744073709551616) ∧ (0 ≤ l ∧ l < 4294967296) ∧ (0 ≤ r ∧ r < 4294967296)

theorem En.wd_bd {r : Int} (h : 0 ≤ r) : 1 ≤ En.wd r ∧ (r < 4294967296 → En.wd r < 4294967296) := by
  unfold En.wd; split <;> omega
theorem blk_cells4 {w : World} {g : Nat} {a b c d : Value} {t : TypeId} (h : w.heap[g]? = some (.cells #[a, b, c, d] t (0, 0))) :
    w.cell? ⟨g, 0, none⟩ = some a ∧ w.cell? ⟨g, 1, none⟩ = some b ∧ w.cell? ⟨g, 2, none⟩ = some c ∧ w.cell? ⟨g, 3, none⟩ = some d := by
  refine ⟨?_, ?_, ?_, ?_⟩ <;> exact cell_of_row w g _ _ _ _ h
theorem bthen {w w1 w2 : World} (h : Below w.heap.size w w1) (k : Below w1.heap.size w1 w2) : Below w.heap.size w w2 := h.trans (k.mono h.size)
theorem blk_keep2 {w1 w2 : World} {g : Nat} {o : Obj} (hb : Below w1.heap.size w1 w2) (h : w1.heap[g]? = some o) : w2.heap[g]? = some o := (hb.block g (blk_lt h)).trans h
theorem bthen2 {w w1 w2 : World} (k : Below w1.heap.size w1 w2) (h : Below w.heap.size w w1) : Below w.heap.size w w2 := bthen h k
theorem blk_new (w : World) (o : Obj) : Below w.heap.size w (w.alloc o) := (Below.refl _ _).alloc (Nat.le_refl _) _

end Go.Proofs.Ytppciejcobmikaa
