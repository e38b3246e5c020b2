/- The walks of fnv's Add, fold and Sum. -/
import Derived.Test.YtlfahmdndlmhpaaGreatDoorM05
import Derived.Test.YtlfahmdndlmhpaaGreatDoorM09
import Derived.Test.YtlfahmdndlmhpaaGreatDoorM18
import Derived.Shelf.RegionOpen
import Derived.StillTailTactics
namespace Go.Proofs.YtlfahmdndlmhpaaGreatDoor
open Go.RowKit

def Fv.step (h b : Int) : Int := IntKind.u64.wrap (bits .xor .u64 h b * 1099511628211)
def Fv.from_ (h : Int) (l : List Int) : Int := l.foldl Fv.step h
def Fv.sum (s : ByteArray) : Int := Fv.from_ 14695981039346656037 (Vi.nums s)
theorem Fv.step_bd (h b : Int) : 0 ≤ Fv.step h b ∧ Fv.step h b < 18446744073709551616 := by unfold Fv.step; rw [IntKind.wrap_u64]; omega
theorem Fv.from_bd (l : List Int) : ∀ h, 0 ≤ h → h < 18446744073709551616 → 0 ≤ Fv.from_ h l ∧ Fv.from_ h l < 18446744073709551616 := by
  induction l with
  | nil => intro h h0 h1; exact ⟨h0, h1⟩
  | cons b l ih => intro h _ _; exact ih _ (Fv.step_bd h b).1 (Fv.step_bd h b).2
theorem Fv.sum_bd (s : ByteArray) : 0 ≤ Fv.sum s ∧ Fv.sum s < 18446744073709551616 := Fv.from_bd _ _ (by omega) (by omega)
theorem Fv.from_take (h : Int) (l : List Int) (k : Nat) (b : Int) (hk : l[k]? = some b) : Fv.from_ h (l.take (k + 1)) = Fv.step (Fv.from_ h (l.take k)) b := by
  have h1 : k < l.length := (List.getElem?_eq_some_iff.1 hk).1
  have h2 : l[k]'h1 = b := (List.getElem?_eq_some_iff.1 hk).2
  rw [List.take_succ_eq_append_getElem h1, Fv.from_, List.foldl_append, h2]; rfl
theorem fadd_any (h b : Int) (h0 : 0 ≤ b) (h1 : b < 256) (w : World) : Calls Tryz.prog 148 #[.int .u64 h, .int .u8 b] w fun e w' => e = .returned (.int .u64 (Fv.step h b)) ∧ w = w' := by
  have hv : Fv.step h b = IntKind.u64.wrap (bits .xor .u64 h b * 1099511628211) := rfl
  have HV := Lib.hid hv
  have c1 := u64w (a := b) h0 (by omega)
  clear hv
  go_enter Tryz.func148, Tryz.ntmps148
  go_wp2_with fail
  go_ret
  exact ⟨ret1 HV.out.symm, rfl⟩
def Fv.folder (h : Int) : Array Value := #[.int .u64 h, .func (.func 148) #[] #[]]
set_option maxRecDepth 100000 in
set_option maxHeartbeats 1000000 in
theorem fold_any (h : Int) (s : ByteArray) (hs : s.size ≤ 1000000) (w : World) :
    Calls Tryz.prog 149 #[.agg #[.int .u64 h, .func (.func 148) #[] #[]], .string s] w fun e w' => e = .returned (.int .u64 (Fv.from_ h (Vi.nums s))) ∧ Below w.heap.size w w' := by
  have HT : Hid (∀ (i : Nat) (q : i < s.size), (Vi.nums s)[i]? = some ((s[i]'q).toNat : Int)) := Lib.hid (fun i q => Vi.nums_at _ i q)
  have HE : Hid (Fv.from_ h ((Vi.nums s).take s.size) = Fv.from_ h (Vi.nums s)) := Lib.hid (by rw [List.take_of_length_le (by rw [Vi.nums_len]; omega)])
  go_enter Tryz.func149, Tryz.ntmps149
  go_wp2_with fail
  go_loopw [8] (fun ci wr => ∃ (k : Nat), k ≤ s.size ∧ ci = .int .i64 k ∧ Hid (wr.heap[w.heap.size]? = some (.cells #[.int .u64 (Fv.from_ h ((Vi.nums s).take k)), .func (.func 148) #[] #[]] 233 (0, 0))) ∧ Below w.heap.size w wr) (fun ci _ => s.size - (intOf ci).toNat)
  case atStart => exact ⟨0, by omega, rfl, Lib.hid (heap_alloc_new w _), (Below.refl _ _).alloc (Nat.le_refl _) _⟩
  case round =>
    obtain ⟨k, hk, rfl, HB, hbl⟩ := hrel
    by_cases hlt : k < s.size
    · have hx := HT.out k hlt
      have hb0 : 0 ≤ ((s[k]'hlt).toNat : Int) := by omega
      have hb1 : ((s[k]'hlt).toNat : Int) < 256 := by have := (s[k]'hlt).toNat_lt; omega
      have c0 := cell_of_row wr w.heap.size 0 _ _ _ HB.out
      have c1 := cell_of_row wr w.heap.size 1 _ _ _ HB.out
      have f0 : wr.frozen? ⟨w.heap.size, 0, none⟩ = false := by simp [World.frozen?, HB.out]
      have HS : Hid (Fv.from_ h ((Vi.nums s).take (k + 1)) = Fv.step (Fv.from_ h ((Vi.nums s).take k)) ((s[k]'hlt).toNat : Int)) := Lib.hid (Fv.from_take _ _ _ _ hx)
      clear hx
      go_wp2_with fail
      refine wp_region_still_tail 9 (by kernel_rfl) (by kernel_rfl) ?_
      simp only [List.take_succ_cons, List.take_zero, List.drop_succ_cons, List.drop_zero]
      iterate 7 still_step
      still_call (fadd_any _ _ hb0 hb1 _).mono (fun e w' h => ⟨h.1, h.2.symm⟩)
      iterate 1 still_step
      refine wpStill_nil ?_
      change wpList _ _ _ _ _ wr.drew
      go_wp2_with fail
      have hB2 : Hid ((wr.setCell ⟨w.heap.size, 0, none⟩ (Value.int IntKind.u64 (Fv.step (Fv.from_ h (List.take k (Vi.nums s))) ((s[k]'hlt).toNat : Int)))).drew.heap[w.heap.size]? = some (.cells #[.int .u64 (Fv.from_ h ((Vi.nums s).take (k + 1))), .func (.func 148) #[] #[]] 233 (0, 0))) := Lib.hid (by
        rw [HS.out]
        exact set_blk HB.out)
      exact ⟨⟨k + 1, by omega, by go_num, hB2, Below.drew (below_set hbl (Nat.le_refl _) _)⟩, by simp [intOf]; omega⟩
    · obtain rfl : k = s.size := by omega
      have c0 := cell_of_row wr w.heap.size 0 _ _ _ HB.out
      go_wp2_with fail
      go_ret
      exact ⟨ret1 HE.out, hbl⟩
theorem sum_any (s : ByteArray) (hs : s.size ≤ 1000000) (w : World) :
    Calls Tryz.prog 117 #[.string s] w fun e w' => e = .returned (.int .u64 (Fv.sum s)) ∧ Below w.heap.size w w' := by
  go_enter Tryz.func117, Tryz.ntmps117
  go_wp2_with fail
  refine (fold_any _ s hs _).mono ?_; rintro e w1 ⟨rfl, hb⟩
  go_wp2_with fail
  go_ret
  exact ⟨rfl, hb⟩
end Go.Proofs.YtlfahmdndlmhpaaGreatDoor
