/- Comparing two lists of numbers: the document's Same. -/
import Derived.Test.YtbojffednfiegaaVarLay
import Derived.Test.YtbojffednfiegaaEntSpec
import Derived.IntWalk
namespace Go.Proofs.Ytbojffednfiegaa
open Go.RowKit Go.Op

def Vi.sm (L M : List Int) : Bool := decide (L = M)
theorem Reads.spot {w : World} {B n : Nat} {A : Option Addr} {k : IntKind} {l : List Int} (h : Reads w B 1 A n (l.map (Value.int k))) (h0 : 0 < n) (hn : n = l.length) : ∃ g off, A = some ⟨g, off, none⟩ ∧ g < B := by
  obtain ⟨g, off, h1, h2, _⟩ := h.num hn 0 (by omega)
  exact ⟨g, off, h1, h2⟩
theorem Reads.num2 {w : World} {B n g off : Nat} {k : IntKind} {l : List Int} (h : Reads w B 1 (some ⟨g, off, none⟩) n (l.map (Value.int k))) (hn : n = l.length) (i : Nat) (hi : i < l.length) :
    w.cell? ⟨g, off + i, none⟩ = some (.int k (l[i]'hi)) := by
  obtain ⟨g', off', he, _, hc⟩ := h.num hn i hi
  injection he with he
  injection he with e1 e2
  subst e1 e2
  exact hc

set_option maxHeartbeats 1000000 in
theorem same64_any (A : Option Addr) (n cap : Nat) (L : List Int) (B : Nat) (A' : Option Addr) (n' cap' : Nat) (M : List Int) (B' : Nat) (w : World) (hr : Reads w B 1 A n (L.map (Value.int .u64))) (hn : n = L.length) (hB : B ≤ w.heap.size) (hr' : Reads w B' 1 A' n' (M.map (Value.int .u64))) (hn' : n' = M.length) (hB' : B' ≤ w.heap.size) (hm : n ≤ 140737488355328) (hm' : n' ≤ 140737488355328) :
    Calls Try.prog 55 #[.slice A n cap, .slice A' n' cap'] w fun e w' => e = .returned (.bool (Vi.sm L M)) ∧ Below w.heap.size w w' := by
  by_cases hnn : n = n'
  · subst hnn
    rcases Nat.eq_zero_or_pos n with h0 | h0
    · have hL : L = [] := List.eq_nil_of_length_eq_zero (by omega)
      have hM : M = [] := List.eq_nil_of_length_eq_zero (by omega)
      subst hL hM
      subst h0
      clear hr hr' hn hn'
      go_enter Try.func55, Try.ntmps55
      go_wp2_with fail
      go_loopw [5] (fun ci wr => ci = .int .i64 0 ∧ wr = w) (fun ci _ => 4 - (intOf ci).toNat)
      case atStart => exact ⟨rfl, rfl⟩
      case round =>
        obtain ⟨rfl, rfl⟩ := hrel
        go_wp2_with fail
        go_ret
        exact ⟨rfl, Below.refl _ _⟩
    · obtain ⟨g, off, rfl, hgB⟩ := hr.spot h0 hn
      obtain ⟨g', off', rfl, hgB'⟩ := hr'.spot h0 hn'
      have HR := Lib.hid hr
      have HN := Lib.hid hn
      have HR' := Lib.hid hr'
      have HN' := Lib.hid hn'
      clear hr hn hr' hn'
      go_enter Try.func55, Try.ntmps55
      go_wp2_with fail
      go_loopw [5] (fun ci wr => ∃ k : Nat, k ≤ n ∧ ci = .int .i64 k ∧ Hid (L.take k = M.take k) ∧ Below w.heap.size w wr) (fun ci _ => n - (intOf ci).toNat)
      case atStart => exact ⟨0, by omega, rfl, Lib.hid rfl, Below.refl _ _⟩
      case round =>
        obtain ⟨k, hk, rfl, hT, hbl⟩ := hrel
        by_cases hlt : k < n
        · have hlt' : k < L.length := by rw [← HN.out]; exact hlt
          have hlt'' : k < M.length := by rw [← HN'.out]; exact hlt
          have c0 := ((HR.out.more hB).below hbl).num2 HN.out k hlt'
          have d0 := ((HR'.out.more hB').below hbl).num2 HN'.out k hlt''
          have hsn : L[k]'hlt' = M[k]'hlt'' → L.take (k + 1) = M.take (k + 1) := fun e => by rw [take_snoc L k hlt', take_snoc M k hlt'', hT.out, e]
          have hne : L[k]'hlt' ≠ M[k]'hlt'' → Vi.sm L M = false := fun e => decide_eq_false (fun h => e (by subst h; rfl))
          obtain ⟨x, he⟩ : ∃ e, e = L[k]'hlt' := ⟨_, rfl⟩
          obtain ⟨y, he'⟩ : ∃ e, e = M[k]'hlt'' := ⟨_, rfl⟩
          rw [← he] at c0 hsn hne
          rw [← he'] at d0 hsn hne
          clear he he'
          have b2 : (0 : Int) ≤ (k : Int) := by omega
          have b3 : (k : Int) < (n : Int) := by omega
          by_cases hxy : x = y
          · have hS := Lib.hid (hsn hxy)
            have c1 : (x != y) = false := by rw [bne_eq_false_iff_eq]; exact hxy
            clear hsn hne hT hxy
            go_wp2_with fail
            go_quiet (fail)
            go_wp2_with fail
            exact ⟨⟨k + 1, by omega, by go_num, hS, bdraws hbl _⟩, by simp [intOf]; omega⟩
          · have hZ := Lib.hid (hne hxy)
            have c1 : (x != y) = true := by rw [bne_iff_ne]; exact hxy
            clear hsn hne hT hxy
            go_wp2_with fail
            go_quiet (fail)
            go_wp2_with fail
            go_ret
            exact ⟨retb hZ.out.symm, bdraws hbl _⟩
        · have hkn : k = n := by omega
          subst hkn
          have hZ : Hid (Vi.sm L M = true) := Lib.hid (decide_eq_true (by have := hT.out; rwa [List.take_of_length_le (by rw [← HN.out]; omega), List.take_of_length_le (by rw [← HN'.out]; omega)] at this))
          go_wp2_with fail
          go_ret
          exact ⟨retb hZ.out.symm, hbl⟩
  · have hZ : Hid (Vi.sm L M = false) := Lib.hid (decide_eq_false (fun h => hnn (by rw [hn, hn', h])))
    have c1 : ((n : Int) != (n' : Int)) = true := by rw [bne_iff_ne]; omega
    clear hr hn hr' hn'
    go_enter Try.func55, Try.ntmps55
    go_wp2_with fail
    go_ret
    exact ⟨retb hZ.out.symm, Below.refl _ _⟩

end Go.Proofs.Ytbojffednfiegaa
