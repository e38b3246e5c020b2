/- Small lemmas for all walks of this seat: results as numbers, powers and masks in the walk's own spelling, what lies below a call, and the row's last step over 'Below'. -/
import Derived.Test.YtlfahmdndlmhpaaGreatDoorRows
import Derived.WalkKit
import Derived.WalkSpells
import Derived.WalkLawsBesides
import Derived.ProofKit
import Derived.OpenShut
import Derived.Lib.Hide
namespace Go.Proofs.YtlfahmdndlmhpaaGreatDoor
open Go.RowKit Go.WideShapes Go.ChangeShapes

theorem ret1 {k : IntKind} {a b : Int} (h : a = b) : Ending.returned (.int k a) = .returned (.int k b) := by rw [h]
theorem retb {a b : Bool} (h : a = b) : Ending.returned (.bool a) = .returned (.bool b) := by rw [h]
theorem ret2 {k k' : IntKind} {a b c d : Int} (h : a = b) (h' : c = d) : Ending.returned (.tuple #[.int k a, .int k' c]) = .returned (.tuple #[.int k b, .int k' d]) := by rw [h, h']
theorem ret3 {k k' k'' : IntKind} {a b c d e f : Int} (h : a = b) (h' : c = d) (h'' : e = f) : Ending.returned (.tuple #[.int k a, .int k' c, .int k'' e]) = .returned (.tuple #[.int k b, .int k' d, .int k'' f]) := by rw [h, h', h'']

theorem bcell {W w1 : World} (hb : Below W.heap.size W w1) : (∀ b o, b < W.heap.size → w1.cell? ⟨b, o, none⟩ = W.cell? ⟨b, o, none⟩) ∧ (∀ b o, b < W.heap.size → w1.frozen? ⟨b, o, none⟩ = W.frozen? ⟨b, o, none⟩) :=
  ⟨fun b o h => hb.cell (p := ⟨b, o, none⟩) h, fun b o h => hb.frozen (p := ⟨b, o, none⟩) h⟩

theorem pow63 (n : Nat) (hn : n ≤ 62) : 2 ^ n ≤ 4611686018427387904 := by
  have := Nat.pow_le_pow_right (n := 2) (by omega) hn
  simpa using this
theorem cpow (n : Nat) : ((2 : Int) ^ n) = ((2 ^ n : Nat) : Int) := by simp
theorem u64w {a : Int} (h0 : 0 ≤ a) (h1 : a < 18446744073709551616) : IntKind.u64.wrap a = a := by rw [IntKind.wrap_u64]; omega
theorem i64w {a : Int} (h0 : -9223372036854775808 ≤ a) (h1 : a < 9223372036854775808) : wrap64 a = a := by unfold wrap64; omega
theorem u64pow (n : Nat) (hn : n ≤ 62) : IntKind.u64.wrap ((2 : Int) ^ n) = ((2 ^ n : Nat) : Int) := by
  have h := pow63 n hn
  rw [cpow]
  generalize 2 ^ n = p at h ⊢
  exact u64w (by omega) (by omega)
theorem u64low (n : Nat) (hn : n ≤ 62) : IntKind.u64.wrap (IntKind.u64.wrap ((2 : Int) ^ n) - 1) = ((2 ^ n - 1 : Nat) : Int) := by
  have := pow63 n hn
  have hp : 0 < 2 ^ n := Nat.pow_pos (by omega)
  rw [u64pow n hn, u64w (by omega) (by omega)]
  omega
theorem u64mask (n x : Nat) (hn : n ≤ 62) (hx : x < 18446744073709551616) : bits .and .u64 (x : Int) (IntKind.u64.wrap (IntKind.u64.wrap ((2 : Int) ^ n) - 1)) = ((x % 2 ^ n : Nat) : Int) := by
  have := pow63 n hn
  rw [u64low n hn, u64_and_nat x _ hx (by omega), Nat.and_two_pow_sub_one_eq_mod]
theorem u64mir (n x : Nat) (hn : n ≤ 62) (hx : x < 18446744073709551616) :
    IntKind.u64.wrap (IntKind.u64.wrap (IntKind.u64.wrap ((2 : Int) ^ n) - 1) - bits .and .u64 (x : Int) (IntKind.u64.wrap (IntKind.u64.wrap ((2 : Int) ^ n) - 1))) = ((2 ^ n - 1 - x % 2 ^ n : Nat) : Int) := by
  have := pow63 n hn
  have hp : 0 < 2 ^ n := Nat.pow_pos (by omega)
  have hm := Nat.mod_lt x hp
  rw [u64mask n x hn hx, u64low n hn, u64w (by omega) (by omega)]
  omega
theorem i64pow (n : Nat) (hn : n ≤ 62) : wrap64 ((2 : Int) ^ n) = ((2 ^ n : Nat) : Int) := by
  have h := pow63 n hn
  rw [cpow]
  generalize 2 ^ n = p at h ⊢
  exact i64w (by omega) (by omega)

theorem u64bit (a m : Nat) (ha : a < 18446744073709551616) : bits .and .u64 ((a : Int) / 2 ^ m) 1 = ((a / 2 ^ m % 2 : Nat) : Int) := by
  have h : a / 2 ^ m < 18446744073709551616 := Nat.lt_of_le_of_lt (Nat.div_le_self _ _) ha
  have e : ((a : Int) / 2 ^ m) = ((a / 2 ^ m : Nat) : Int) := by simp
  have h1 := u64_and_nat (a / 2 ^ m) 1 h (by omega)
  rw [nat_mask1] at h1
  rw [e]
  exact h1

section
variable {H : Type} {enc : TypeId × Value → H} {P : Program}
/-- 'post_of_same' where the world is known by 'Below' alone -/
theorem post_of_below {f : Func} {s : ChangeSpec} {apart fresh handsOn again : Bool} {W W' : World} {args : Array Value} {v : Value} {ds gs : List (DataW H)} {before pa pv : List MemPlace}
    (hW : DataW.Whole enc P f.params.toList s.vars apart W args.toList ds gs before)
    (hres : ∀ (b : Nat) (sp : Nat → Bool) (hd : Bool), DataW.TrodAll enc P W' b sp hd f.resultTypes.toList (v.resultList f.resultTypes.size) (s.fn H (ds ++ gs)).results [])
    (hargs : ∀ sp : Nat → Bool, (∀ p ∈ before, sp p.block = true) → DataW.TrodAll enc P W' 0 sp true f.params.toList args.toList (s.fn H (ds ++ gs)).args pa)
    (hvars : ∀ sp : Nat → Bool, (∀ p ∈ before, sp p.block = true) → DataW.TrodVars enc P W' sp s.vars (s.fn H (ds ++ gs)).vars pv)
    (hps : before = pa ++ pv) (hb : Below W.heap.size W W')
    (hok : ∀ (j : Nat) (t : TypeId) (r : Value), f.resultTypes[j]? = some t → (v.resultList f.resultTypes.size)[j]? = some r → Value.okWide P W' .any 0 t r) :
    s.post enc P f apart fresh handsOn again W args v W' := by
  have hlt : ∀ p ∈ before, p.block < W.heap.size := fun p hp => hW.lt p hp
  have hold : ∀ p ∈ before, (fun b => decide (b < W.heap.size)) p.block = true := fun p hp => by simpa using hlt p hp
  refine ⟨ds, gs, before, [], pa, pv, hW, hres _ _ _, hargs _ hold, hvars _ hold, World.keptBut_mono (fun p hp => ⟨hp, ?_⟩) (hb.frame (· ∈ before)), fun _ => ?_⟩
  · rw [hps, List.mem_append] at hp
    exact Or.inr hp
  · obtain ⟨_, _, _, _, _, hz, hn⟩ := hW
    refine ⟨hok, _, _, ([] ++ pa) ++ pv, ⟨[] ++ pa, pv, trodAll_append (hargs _ (fun _ _ => rfl)) (hres _ _ _), hvars _ (fun _ _ => rfl), rfl, ?_, ?_⟩, ?_⟩
    · intro b off hp
      have hin : MemPlace.cell b off ∈ before := by rw [hps]; simpa using hp
      rw [hb.frozen (hlt _ hin)]
      exact hz b off hin
    · intro ha
      have := hn ha
      rw [hps] at this
      simpa using this
    · intro p hp _
      rw [hps]
      simpa using hp
end
end Go.Proofs.YtlfahmdndlmhpaaGreatDoor
