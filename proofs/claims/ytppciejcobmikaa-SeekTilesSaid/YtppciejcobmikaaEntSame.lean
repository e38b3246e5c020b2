/- Comparing entries, and lists of entries: the program's and the document's. -/
import Derived.Test.YtppciejcobmikaaEntOwn
import Derived.IntWalk
namespace Go.Proofs.Ytppciejcobmikaa
open Go.RowKit Go.Op

def En.teq (a b c d a' b' c' d' : Int) : Bool := (a == a') && (b == b') && (c == c') && (d == d')
theorem En.teq_iff (e e' : Ent) : En.teq e.1 e.2.1 e.2.2.1 e.2.2.2 e'.1 e'.2.1 e'.2.2.1 e'.2.2.2 = true ↔ e = e' := by
  obtain ⟨a, b, c, d⟩ := e
  obtain ⟨a', b', c', d'⟩ := e'
  simp [En.teq, and_assoc]
def En.sm (L M : List Ent) : Bool := decide (L = M)
theorem eq_ent (a b c d a' b' c' d' : Int) (w : World) :
    (binOp .eql 26 (.agg #[.int .u64 a, .int .u64 b, .int .u32 c, .int .u32 d]) (.agg #[.int .u64 a', .int .u64 b', .int .u32 c', .int .u32 d'])).run Try.prog w = .ok (.bool (En.teq a b c d a' b' c' d')) w := by
  unfold En.teq
  rcases Bool.eq_false_or_eq_true (a == a') with h1 | h1 <;> rcases Bool.eq_false_or_eq_true (b == b') with h2 | h2 <;> rcases Bool.eq_false_or_eq_true (c == c') with h3 | h3 <;> rcases Bool.eq_false_or_eq_true (d == d') with h4 | h4 <;> rw [h1, h2, h3, h4] <;> simp [go_sem, h1, h2, h3, h4]
theorem neq_ent (a b c d a' b' c' d' : Int) (w : World) :
    (binOp .neq 26 (.agg #[.int .u64 a, .int .u64 b, .int .u32 c, .int .u32 d]) (.agg #[.int .u64 a', .int .u64 b', .int .u32 c', .int .u32 d'])).run Try.prog w = .ok (.bool (!En.teq a b c d a' b' c' d')) w := by
  unfold En.teq
  rcases Bool.eq_false_or_eq_true (a == a') with h1 | h1 <;> rcases Bool.eq_false_or_eq_true (b == b') with h2 | h2 <;> rcases Bool.eq_false_or_eq_true (c == c') with h3 | h3 <;> rcases Bool.eq_false_or_eq_true (d == d') with h4 | h4 <;> rw [h1, h2, h3, h4] <;> simp [go_sem, h1, h2, h3, h4]
theorem eq_rent (a b c d a' b' c' d' : Int) (w : World) :
    (binOp .eql 25 (.agg #[.int .u64 a, .int .u64 b, .int .u32 c, .int .u32 d]) (.agg #[.int .u64 a', .int .u64 b', .int .u32 c', .int .u32 d'])).run Try.prog w = .ok (.bool (En.teq a b c d a' b' c' d')) w := by
  unfold En.teq
  rcases Bool.eq_false_or_eq_true (a == a') with h1 | h1 <;> rcases Bool.eq_false_or_eq_true (b == b') with h2 | h2 <;> rcases Bool.eq_false_or_eq_true (c == c') with h3 | h3 <;> rcases Bool.eq_false_or_eq_true (d == d') with h4 | h4 <;> rw [h1, h2, h3, h4] <;> simp [go_sem, h1, h2, h3, h4]
theorem neq_rent (a b c d a' b' c' d' : Int) (w : World) :
    (binOp .neq 25 (.agg #[.int .u64 a, .int .u64 b, .int .u32 c, .int .u32 d]) (.agg #[.int .u64 a', .int .u64 b', .int .u32 c', .int .u32 d'])).run Try.prog w = .ok (.bool (!En.teq a b c d a' b' c' d')) w := by
  unfold En.teq
  rcases Bool.eq_false_or_eq_true (a == a') with h1 | h1 <;> rcases Bool.eq_false_or_eq_true (b == b') with h2 | h2 <;> rcases Bool.eq_false_or_eq_true (c == c') with h3 | h3 <;> rcases Bool.eq_false_or_eq_true (d == d') with h4 | h4 <;> rw [h1, h2, h3, h4] <;> simp [go_sem, h1, h2, h3, h4]
set_option maxHeartbeats 1000000 in
theorem equal_any (A : Option Addr) (n cap : Nat) (L : List Ent) (B : Nat) (A' : Option Addr) (n' cap' : Nat) (M : List Ent) (B' : Nat) (w : World) (hr : Reads w B 4 A n (ecells L)) (hn : n = L.length) (hB : B ≤ w.heap.size) (hr' : Reads w B' 4 A' n' (ecells M)) (hn' : n' = M.length) (hB' : B' ≤ w.heap.size) (hm : n ≤ 140737488355328) (hm' : n' ≤ 140737488355328) :
    Calls Try.prog 62 #[.slice A n cap, .slice A' n' cap'] w fun e w' => e = .returned (.bool (En.sm L M)) ∧ Below w.heap.size w w' := by
  have hq := neq_ent
  by_cases hnn : n = n'
  · subst hnn
    rcases Nat.eq_zero_or_pos n with h0 | h0
    · have hL : L = [] := List.eq_nil_of_length_eq_zero (by omega)
      have hM : M = [] := List.eq_nil_of_length_eq_zero (by omega)
      subst hL hM
      subst h0
      clear hr hr' hn hn'
      go_enter Try.func62, Try.ntmps62
      go_wp2_with fail
      go_loopw [13] (fun ci wr => ci = .int .i64 0 ∧ wr = w) (fun ci _ => 4 - (intOf ci).toNat)
      case atStart => exact ⟨rfl, rfl⟩
      case round =>
        obtain ⟨rfl, rfl⟩ := hrel
        go_wp2_with fail
        go_ret
        exact ⟨rfl, Below.refl _ _⟩
    · obtain ⟨g, off, rfl, hgB⟩ := hr.plain h0 hn
      obtain ⟨g', off', rfl, hgB'⟩ := hr'.plain h0 hn'
      have HR := Lib.hid hr
      have HN := Lib.hid hn
      have HR' := Lib.hid hr'
      have HN' := Lib.hid hn'
      clear hr hn hr' hn'
      go_enter Try.func62, Try.ntmps62
      go_wp2_with fail
      go_loopw [13] (fun ci wr => ∃ k : Nat, k ≤ n ∧ ci = .int .i64 k ∧ Hid (L.take k = M.take k) ∧ Below w.heap.size w wr) (fun ci _ => n - (intOf ci).toNat)
      case atStart => exact ⟨0, by omega, rfl, Lib.hid rfl, Below.refl _ _⟩
      case round =>
        obtain ⟨k, hk, rfl, hT, hbl⟩ := hrel
        by_cases hlt : k < n
        · have hlt' : k < L.length := by rw [← HN.out]; exact hlt
          have hlt'' : k < M.length := by rw [← HN'.out]; exact hlt
          obtain ⟨c0, c1, c2, c3⟩ := ((HR.out.more hB).below hbl).ent HN.out k hlt'
          obtain ⟨d0, d1, d2, d3⟩ := ((HR'.out.more hB').below hbl).ent HN'.out k hlt''
          have hte := En.teq_iff (L[k]'hlt') (M[k]'hlt'')
          have hsn : L[k]'hlt' = M[k]'hlt'' → L.take (k + 1) = M.take (k + 1) := fun e => by rw [take_snoc L k hlt', take_snoc M k hlt'', hT.out, e]
          have hne : L[k]'hlt' ≠ M[k]'hlt'' → En.sm L M = false := fun e => decide_eq_false (fun h => e (by subst h; rfl))
          obtain ⟨⟨i, o, l, r⟩, he⟩ : ∃ e, e = L[k]'hlt' := ⟨_, rfl⟩
          obtain ⟨⟨i', o', l', r'⟩, he'⟩ : ∃ e, e = M[k]'hlt'' := ⟨_, rfl⟩
          rw [← he] at c0 c1 c2 c3 hte hsn hne
          rw [← he'] at d0 d1 d2 d3 hte hsn hne
          clear he he'
          have b2 : (0 : Int) ≤ (k : Int) := by omega
          have b3 : (k : Int) < (n : Int) := by omega
          rcases Bool.eq_false_or_eq_true (En.teq i o l r i' o' l' r') with ht | ht
          · have hS := Lib.hid (hsn (hte.1 ht))
            clear hte hsn hne hT
            go_wp2_with fail
            go_quiet (fail)
            go_wp2_with fail
            exact ⟨⟨k + 1, by omega, by go_num, hS, bdraws hbl _⟩, by simp [intOf]; omega⟩
          · have hZ := Lib.hid (hne (fun e => by rw [hte.2 e] at ht; cases ht))
            clear hte hsn hne hT
            go_wp2_with fail
            go_quiet (fail)
            go_wp2_with fail
            go_ret
            exact ⟨retb hZ.out.symm, bdraws hbl _⟩
        · have hkn : k = n := by omega
          subst hkn
          have hZ : Hid (En.sm L M = true) := Lib.hid (decide_eq_true (by have := hT.out; rwa [List.take_of_length_le (by rw [← HN.out]; omega), List.take_of_length_le (by rw [← HN'.out]; omega)] at this))
          go_wp2_with fail
          go_ret
          exact ⟨retb hZ.out.symm, hbl⟩
  · have hZ : Hid (En.sm L M = false) := Lib.hid (decide_eq_false (fun h => hnn (by rw [hn, hn', h])))
    have c1 : ((n : Int) != (n' : Int)) = true := by rw [bne_iff_ne]; omega
    clear hr hn hr' hn'
    go_enter Try.func62, Try.ntmps62
    go_wp2_with fail
    go_ret
    exact ⟨retb hZ.out.symm, Below.refl _ _⟩
set_option maxHeartbeats 1000000 in
theorem refsame_any (A : Option Addr) (n cap : Nat) (L : List Ent) (B : Nat) (A' : Option Addr) (n' cap' : Nat) (M : List Ent) (B' : Nat) (w : World) (hr : Reads w B 4 A n (ecells L)) (hn : n = L.length) (hB : B ≤ w.heap.size) (hr' : Reads w B' 4 A' n' (ecells M)) (hn' : n' = M.length) (hB' : B' ≤ w.heap.size) (hm : n ≤ 140737488355328) (hm' : n' ≤ 140737488355328) :
    Calls Try.prog 33 #[.slice A n cap, .slice A' n' cap'] w fun e w' => e = .returned (.bool (En.sm L M)) ∧ Below w.heap.size w w' := by
  have hq := neq_rent
  by_cases hnn : n = n'
  · subst hnn
    rcases Nat.eq_zero_or_pos n with h0 | h0
    · have hL : L = [] := List.eq_nil_of_length_eq_zero (by omega)
      have hM : M = [] := List.eq_nil_of_length_eq_zero (by omega)
      subst hL hM
      subst h0
      clear hr hr' hn hn'
      go_enter Try.func33, Try.ntmps33
      go_wp2_with fail
      go_loopw [5] (fun ci wr => ci = .int .i64 0 ∧ wr = w) (fun ci _ => 4 - (intOf ci).toNat)
      case atStart => exact ⟨rfl, rfl⟩
      case round =>
        obtain ⟨rfl, rfl⟩ := hrel
        go_wp2_with fail
        go_ret
        exact ⟨rfl, Below.refl _ _⟩
    · obtain ⟨g, off, rfl, hgB⟩ := hr.plain h0 hn
      obtain ⟨g', off', rfl, hgB'⟩ := hr'.plain h0 hn'
      have HR := Lib.hid hr
      have HN := Lib.hid hn
      have HR' := Lib.hid hr'
      have HN' := Lib.hid hn'
      clear hr hn hr' hn'
      go_enter Try.func33, Try.ntmps33
      go_wp2_with fail
      go_loopw [5] (fun ci wr => ∃ k : Nat, k ≤ n ∧ ci = .int .i64 k ∧ Hid (L.take k = M.take k) ∧ Below w.heap.size w wr) (fun ci _ => n - (intOf ci).toNat)
      case atStart => exact ⟨0, by omega, rfl, Lib.hid rfl, Below.refl _ _⟩
      case round =>
        obtain ⟨k, hk, rfl, hT, hbl⟩ := hrel
        by_cases hlt : k < n
        · have hlt' : k < L.length := by rw [← HN.out]; exact hlt
          have hlt'' : k < M.length := by rw [← HN'.out]; exact hlt
          obtain ⟨c0, c1, c2, c3⟩ := ((HR.out.more hB).below hbl).ent HN.out k hlt'
          obtain ⟨d0, d1, d2, d3⟩ := ((HR'.out.more hB').below hbl).ent HN'.out k hlt''
          have hte := En.teq_iff (L[k]'hlt') (M[k]'hlt'')
          have hsn : L[k]'hlt' = M[k]'hlt'' → L.take (k + 1) = M.take (k + 1) := fun e => by rw [take_snoc L k hlt', take_snoc M k hlt'', hT.out, e]
          have hne : L[k]'hlt' ≠ M[k]'hlt'' → En.sm L M = false := fun e => decide_eq_false (fun h => e (by subst h; rfl))
          obtain ⟨⟨i, o, l, r⟩, he⟩ : ∃ e, e = L[k]'hlt' := ⟨_, rfl⟩
          obtain ⟨⟨i', o', l', r'⟩, he'⟩ : ∃ e, e = M[k]'hlt'' := ⟨_, rfl⟩
          rw [← he] at c0 c1 c2 c3 hte hsn hne
          rw [← he'] at d0 d1 d2 d3 hte hsn hne
          clear he he'
          have b2 : (0 : Int) ≤ (k : Int) := by omega
          have b3 : (k : Int) < (n : Int) := by omega
          rcases Bool.eq_false_or_eq_true (En.teq i o l r i' o' l' r') with ht | ht
          · have hS := Lib.hid (hsn (hte.1 ht))
            clear hte hsn hne hT
            go_wp2_with fail
            go_quiet (fail)
            go_wp2_with fail
            exact ⟨⟨k + 1, by omega, by go_num, hS, bdraws hbl _⟩, by simp [intOf]; omega⟩
          · have hZ := Lib.hid (hne (fun e => by rw [hte.2 e] at ht; cases ht))
            clear hte hsn hne hT
            go_wp2_with fail
            go_quiet (fail)
            go_wp2_with fail
            go_ret
            exact ⟨retb hZ.out.symm, bdraws hbl _⟩
        · have hkn : k = n := by omega
          subst hkn
          have hZ : Hid (En.sm L M = true) := Lib.hid (decide_eq_true (by have := hT.out; rwa [List.take_of_length_le (by rw [← HN.out]; omega), List.take_of_length_le (by rw [← HN'.out]; omega)] at this))
          go_wp2_with fail
          go_ret
          exact ⟨retb hZ.out.symm, hbl⟩
  · have hZ : Hid (En.sm L M = false) := Lib.hid (decide_eq_false (fun h => hnn (by rw [hn, hn', h])))
    have c1 : ((n : Int) != (n' : Int)) = true := by rw [bne_iff_ne]; omega
    clear hr hn hr' hn'
    go_enter Try.func33, Try.ntmps33
    go_wp2_with fail
    go_ret
    exact ⟨retb hZ.out.symm, Below.refl _ _⟩
theorem same_any (A : Option Addr) (n cap : Nat) (L : List Ent) (B : Nat) (A' : Option Addr) (n' cap' : Nat) (M : List Ent) (B' : Nat) (w : World) (hr : Reads w B 4 A n (ecells L)) (hn : n = L.length) (hB : B ≤ w.heap.size) (hr' : Reads w B' 4 A' n' (ecells M)) (hn' : n' = M.length) (hB' : B' ≤ w.heap.size) (hm : n ≤ 140737488355328) (hm' : n' ≤ 140737488355328) :
    Calls Try.prog 32 #[.slice A n cap, .slice A' n' cap'] w fun e w' => e = .returned (.bool (En.sm L M)) ∧ Below w.heap.size w w' := by
  have H := Lib.hid (equal_any A n cap L B A' n' cap' M B' w hr hn hB hr' hn' hB' hm hm')
  clear hr hn hr' hn'
  go_enter Try.func32, Try.ntmps32
  go_wp2_with fail
  refine (H.out).mono ?_; rintro e w1 ⟨rfl, hb⟩
  go_wp2_with fail
  go_ret
  exact ⟨rfl, hb⟩

end Go.Proofs.Ytppciejcobmikaa
