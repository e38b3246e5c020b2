/- Comparing two tiles. -/
import Derived.Test.YtdipincjginmcaaDoorBlk
namespace Go.Proofs.YtdipincjginmcaaDoor
open Go.RowKit Go.Op

def Cv.teq (a b c a' b' c' : Int) : Bool := (a == a') && (b == b') && (c == c')

theorem eq_tile (a b c a' b' c' : Int) (w : World) :
    (binOp .eql 30 (.agg #[.int .i64 a, .int .i64 b, .int .i64 c]) (.agg #[.int .i64 a', .int .i64 b', .int .i64 c'])).run Tryd.prog w = .ok (.bool (Cv.teq a b c a' b' c')) w := by
  unfold Cv.teq
  rcases Bool.eq_false_or_eq_true (a == a') with h1 | h1 <;> rcases Bool.eq_false_or_eq_true (b == b') with h2 | h2 <;> rcases Bool.eq_false_or_eq_true (c == c') with h3 | h3 <;> rw [h1, h2, h3] <;> simp [go_sem, h1, h2, h3]
theorem neq_tile (a b c a' b' c' : Int) (w : World) :
    (binOp .neq 30 (.agg #[.int .i64 a, .int .i64 b, .int .i64 c]) (.agg #[.int .i64 a', .int .i64 b', .int .i64 c'])).run Tryd.prog w = .ok (.bool (!Cv.teq a b c a' b' c')) w := by
  unfold Cv.teq
  rcases Bool.eq_false_or_eq_true (a == a') with h1 | h1 <;> rcases Bool.eq_false_or_eq_true (b == b') with h2 | h2 <;> rcases Bool.eq_false_or_eq_true (c == c') with h3 | h3 <;> rw [h1, h2, h3] <;> simp [go_sem, h1, h2, h3]

theorem eq_rtile (a b c a' b' c' : Int) (w : World) :
    (binOp .eql 23 (.agg #[.int .i64 a, .int .i64 b, .int .i64 c]) (.agg #[.int .i64 a', .int .i64 b', .int .i64 c'])).run Tryd.prog w = .ok (.bool (Cv.teq a b c a' b' c')) w := by
  unfold Cv.teq
  rcases Bool.eq_false_or_eq_true (a == a') with h1 | h1 <;> rcases Bool.eq_false_or_eq_true (b == b') with h2 | h2 <;> rcases Bool.eq_false_or_eq_true (c == c') with h3 | h3 <;> rw [h1, h2, h3] <;> simp [go_sem, h1, h2, h3]
theorem neq_rtile (a b c a' b' c' : Int) (w : World) :
    (binOp .neq 23 (.agg #[.int .i64 a, .int .i64 b, .int .i64 c]) (.agg #[.int .i64 a', .int .i64 b', .int .i64 c'])).run Tryd.prog w = .ok (.bool (!Cv.teq a b c a' b' c')) w := by
  unfold Cv.teq
  rcases Bool.eq_false_or_eq_true (a == a') with h1 | h1 <;> rcases Bool.eq_false_or_eq_true (b == b') with h2 | h2 <;> rcases Bool.eq_false_or_eq_true (c == c') with h3 | h3 <;> rw [h1, h2, h3] <;> simp [go_sem, h1, h2, h3]

end Go.Proofs.YtdipincjginmcaaDoor
