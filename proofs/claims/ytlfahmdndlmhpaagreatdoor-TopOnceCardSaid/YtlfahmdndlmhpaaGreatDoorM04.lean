/- Blocks that a call laid: what they hold behind further calls; small facts on worlds. Entries: what the document says of one. Numbers laid by seven binary digits a byte: plain. -/
import Derived.Test.YtlfahmdndlmhpaaGreatDoorKit
import Derived.BigQuiet
import Derived.Deep.QuietTactic
import Derived.Laws.BytesArg
namespace Go.Proofs.YtlfahmdndlmhpaaGreatDoor
open Go.RowKit

theorem blk_lt {w : World} {g : Nat} {o : Obj} (h : w.heap[g]? = some o) : g < w.heap.size := by
  rcases Nat.lt_or_ge g w.heap.size with hlt | hge
  · exact hlt
  · rw [Array.getElem?_eq_none hge] at h; cases h
theorem blk_keep {w1 w2 : World} {g : Nat} {o : Obj} (h : w1.heap[g]? = some o) (hb : Below w1.heap.size w1 w2) : w2.heap[g]? = some o := (hb.block g (blk_lt h)).trans h
theorem blk_alloc {w : World} {g : Nat} {o : Obj} (h : w.heap[g]? = some o) (o' : Obj) : (w.alloc o').heap[g]? = some o := (Below.heap_alloc w o' g (blk_lt h)).trans h
theorem blk_one {w w1 : World} {A : Obj} (hb : Below (w.alloc A).heap.size (w.alloc A) w1) : w1.heap[w.heap.size]? = some A ∧ w.heap.size < w1.heap.size ∧ Below w.heap.size w w1 := by
  have h1 := blk_keep (heap_alloc_new w A) hb
  exact ⟨h1, blk_lt h1, ((Below.refl _ _).alloc (Nat.le_refl _) _).trans (hb.mono (by simp))⟩
theorem blk_two {w w1 : World} {A B : Obj} (hb : Below ((w.alloc A).alloc B).heap.size ((w.alloc A).alloc B) w1) :
    w1.heap[w.heap.size]? = some A ∧ w1.heap[w.heap.size + 1]? = some B ∧ w.heap.size < w1.heap.size ∧ w.heap.size + 1 < w1.heap.size ∧ Below w.heap.size w w1 := by
  have h1 := blk_keep (blk_alloc (heap_alloc_new w A) B) hb
  have h2 := blk_keep (heap_alloc_new (w.alloc A) B) hb
  rw [show (w.alloc A).heap.size = w.heap.size + 1 by simp] at h2
  exact ⟨h1, h2, blk_lt h1, blk_lt h2, (((Below.refl _ _).alloc (Nat.le_refl _) _).alloc (by simp) _).trans (hb.mono (by simp; omega))⟩
theorem blk_cells3 {w : World} {g : Nat} {a b c : Value} {t : TypeId} (h : w.heap[g]? = some (.cells #[a, b, c] t (0, 0))) :
    (w.cell? ⟨g, 0, none⟩ = some a ∧ w.cell? ⟨g, 1, none⟩ = some b ∧ w.cell? ⟨g, 2, none⟩ = some c) ∧ w.frozen? ⟨g, 0, none⟩ = false ∧ w.frozen? ⟨g, 1, none⟩ = false ∧ w.frozen? ⟨g, 2, none⟩ = false := by
  refine ⟨⟨?_, ?_, ?_⟩, ?_, ?_, ?_⟩ <;> first | exact cell_of_row w g _ _ _ _ h | simp [World.frozen?, h]
theorem blk_below {B : Nat} {w w1 w2 : World} (h : Below B w w1) (hB : B ≤ w.heap.size) (k : Below w1.heap.size w1 w2) : Below B w w2 := h.trans (k.mono (Nat.le_trans hB h.size))
theorem bdraws {B : Nat} {a w : World} (h : Below B a w) (n : Nat) : Below B a (w.drewN n) := ⟨h.os, h.tape, h.output, h.size, h.block⟩
theorem quiet_add_left {P : Program} {f : FuncId} {args : Array Value} {w : World} {a n : Nat} {v : Value}
    (h : Calls P f args (w.drewN (a + n)) fun e w' => e = .returned v ∧ w.drewN (a + n) = w') :
    Calls P f args (w.drewN (a + n)) fun e w'' => e = .returned v ∧ ∃ m, w'' = w.drewN (a + m) :=
  h.mono fun _ _ ⟨he, hm⟩ => ⟨he, n, hm.symm⟩
theorem quiet_left {P : Program} {f : FuncId} {args : Array Value} {w : World} {n : Nat} {v : Value}
    (h : Calls P f args (w.drewN n) fun e w' => e = .returned v ∧ w.drewN n = w') : Calls P f args (w.drewN n) fun e w'' => e = .returned v ∧ ∃ m, w'' = w.drewN m :=
  h.mono fun _ _ ⟨he, hm⟩ => ⟨he, n, hm.symm⟩
end Go.Proofs.YtlfahmdndlmhpaaGreatDoor
namespace Go.Proofs.YtlfahmdndlmhpaaGreatDoor
open Go.RowKit

def En.wd (r : Int) : Int := if r = 0 then 1 else r
def En.ck (i o l r : Int) : Int := if l = 0 then 2 else if 6004799503160661 < i + En.wd r then 8 else if 1099511627776 < o + l then 8 else 0
def En.la (i o l r : Int) : Int := if En.ck i o l r = 0 then i + En.wd r - 1 else 0
def En.hs (i o l r id : Int) : Bool := decide (En.ck i o l r = 0 ∧ 0 < r ∧ i ≤ id ∧ id ≤ En.la i o l r)
/-- the fields fit -/
def En.fit (i o l r : Int) : Prop := (0 ≤ i ∧ i < 18446744073709551616) ∧ (0 ≤ o ∧ o < 18446744073709551616) ∧ (0 ≤ l ∧ l < 4294967296) ∧ (0 ≤ r ∧ r < 4294967296)

theorem En.wd_bd {r : Int} (h : 0 ≤ r) : 1 ≤ En.wd r ∧ (r < 4294967296 → En.wd r < 4294967296) := by
  unfold En.wd; split <;> omega
theorem blk_cells4 {w : World} {g : Nat} {a b c d : Value} {t : TypeId} (h : w.heap[g]? = some (.cells #[a, b, c, d] t (0, 0))) :
    w.cell? ⟨g, 0, none⟩ = some a ∧ w.cell? ⟨g, 1, none⟩ = some b ∧ w.cell? ⟨g, 2, none⟩ = some c ∧ w.cell? ⟨g, 3, none⟩ = some d := by
  refine ⟨?_, ?_, ?_, ?_⟩ <;> exact cell_of_row w g _ _ _ _ h
theorem bthen {w w1 w2 : World} (h : Below w.heap.size w w1) (k : Below w1.heap.size w1 w2) : Below w.heap.size w w2 := h.trans (k.mono h.size)
theorem blk_keep2 {w1 w2 : World} {g : Nat} {o : Obj} (hb : Below w1.heap.size w1 w2) (h : w1.heap[g]? = some o) : w2.heap[g]? = some o := (hb.block g (blk_lt h)).trans h
theorem bthen2 {w w1 w2 : World} (k : Below w1.heap.size w1 w2) (h : Below w.heap.size w w1) : Below w.heap.size w w2 := bthen h k
theorem blk_new (w : World) (o : Obj) : Below w.heap.size w (w.alloc o) := (Below.refl _ _).alloc (Nat.le_refl _) _

end Go.Proofs.YtlfahmdndlmhpaaGreatDoor
namespace Go.Proofs.YtlfahmdndlmhpaaGreatDoor
open Go.RowKit

def Vi.enc : Nat → Int → List Int
  | 0, x => [x]
  | f + 1, x => if x < 128 then [x] else (x % 128 + 128) :: Vi.enc f (x / 128)
def Vi.bytes (x : Int) : List Int := Vi.enc 9 x
def Vi.cap : Nat → Int
  | 0 => 2
  | f + 1 => 128 * Vi.cap f
theorem Vi.cap9 : Vi.cap 9 = 18446744073709551616 := by decide +kernel
theorem Vi.cap_pos (f : Nat) : 2 ≤ Vi.cap f := by
  induction f with
  | zero => simp [Vi.cap]
  | succ f ih => unfold Vi.cap; omega
theorem Vi.cap_div {f : Nat} {x : Int} (h : x < Vi.cap (f + 1)) : x / 128 < Vi.cap f := by unfold Vi.cap at h; omega
theorem Vi.cap_big {f : Nat} {x : Int} (h : x < Vi.cap f) (hx : 127 < x) : ∃ g, f = g + 1 := by
  cases f with
  | zero => simp [Vi.cap] at h; omega
  | succ g => exact ⟨g, rfl⟩
theorem Vi.enc_small (f : Nat) {x : Int} (h : x < 128) : Vi.enc f x = [x] := by
  cases f with
  | zero => rfl
  | succ f => unfold Vi.enc; rw [if_pos h]
theorem Vi.enc_big (f : Nat) {x : Int} (h : 127 < x) : Vi.enc (f + 1) x = (x % 128 + 128) :: Vi.enc f (x / 128) := by
  rw [Vi.enc, if_neg (by omega)]
theorem Vi.enc_fits (f : Nat) : ∀ (x : Int), 0 ≤ x → x < Vi.cap f → ∀ b ∈ Vi.enc f x, 0 ≤ b ∧ b < 256 := by
  induction f with
  | zero => intro x h0 h1 b hb; simp [Vi.enc] at hb; simp [Vi.cap] at h1; omega
  | succ f ih =>
    intro x h0 h1 b hb
    by_cases c : x < 128
    · rw [Vi.enc_small _ c] at hb
      simp at hb
      omega
    · rw [Vi.enc_big f (by omega), List.mem_cons] at hb
      rcases hb with rfl | hb
      · omega
      · exact ih _ (by omega) (Vi.cap_div h1) b hb
theorem Vi.enc_len (f : Nat) : ∀ (x : Int), 1 ≤ (Vi.enc f x).length ∧ (Vi.enc f x).length ≤ f + 1 := by
  induction f with
  | zero => intro x; simp [Vi.enc]
  | succ f ih =>
    intro x
    unfold Vi.enc
    split
    · simp
    · have := ih (x / 128); simp; omega
theorem Vi.bytes_fits {x : Int} (h0 : 0 ≤ x) (h1 : x < 18446744073709551616) : ∀ b ∈ Vi.bytes x, 0 ≤ b ∧ b < 256 := Vi.enc_fits 9 x h0 (by rw [Vi.cap9]; exact h1)
theorem Vi.bytes_len (x : Int) : 1 ≤ (Vi.bytes x).length ∧ (Vi.bytes x).length ≤ 10 := Vi.enc_len 9 x
def Vi.all (l : List Int) : List Int := l.flatMap Vi.bytes
theorem Vi.all_snoc (l : List Int) (x : Int) : Vi.all (l ++ [x]) = Vi.all l ++ Vi.bytes x := by simp [Vi.all]
theorem Vi.all_len (l : List Int) : (Vi.all l).length ≤ l.length * 10 := by
  induction l with
  | nil => simp [Vi.all]
  | cons x l ih =>
    have := Vi.bytes_len x
    unfold Vi.all at *
    rw [List.flatMap_cons, List.length_append, List.length_cons]
    omega
theorem Vi.all_fits {l : List Int} (h : ∀ x ∈ l, 0 ≤ x ∧ x < 18446744073709551616) : ∀ b ∈ Vi.all l, 0 ≤ b ∧ b < 256 := by
  intro b hb
  obtain ⟨x, hx, hb⟩ := List.mem_flatMap.1 hb
  exact Vi.bytes_fits (h x hx).1 (h x hx).2 b hb

theorem str_app (a b : List Int) : strOfNums a ++ strOfNums b = strOfNums (a ++ b) := by
  apply ByteArray.ext
  simp [strOfNums]
theorem str_nil : strOfNums [] = ByteArray.empty := rfl
theorem str_inj {a b : List Int} (ha : ∀ x ∈ a, 0 ≤ x ∧ x < 256) (hb : ∀ x ∈ b, 0 ≤ x ∧ x < 256) (h : strOfNums a = strOfNums b) : a = b := by
  have h2 : a.map (fun n => UInt8.ofNat n.toNat) = b.map (fun n => UInt8.ofNat n.toNat) := by
    have := congrArg (fun s : ByteArray => s.data.toList) h
    simpa [strOfNums] using this
  have back : ∀ (l : List Int), (∀ x ∈ l, 0 ≤ x ∧ x < 256) → (l.map (fun n => UInt8.ofNat n.toNat)).map (fun u => (u.toNat : Int)) = l := by
    intro l hl
    rw [List.map_map]
    conv => rhs; rw [← List.map_id l]
    apply List.map_congr_left
    intro x hx
    have := hl x hx
    simp
    omega
  rw [← back a ha, ← back b hb, h2]
end Go.Proofs.YtlfahmdndlmhpaaGreatDoor
