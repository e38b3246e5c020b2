/- A map from (offset, length) to a count, that the call makes: what an increment does. -/
import Derived.Test.YtbojffednfiegaaEntSums
import Derived.Maps.OwnSet
import Derived.WideKeyEntry
import Derived.DeepKeys4
namespace Go.Proofs.Ytbojffednfiegaa
open Go.RowKit Go.ChangeMaps Go.MapKept
open Go.WideElems (Fit rd rg)
open Go.Maps (Keyed has size)

theorem con_row : (94 : TypeId) < Try.prog.types.size := of_decide_eq_true (by kernel_rfl)
theorem con_deep : Try.prog.keyType 94 = true := by kernel_rfl
theorem con_wide : (match Try.prog.underlying 94 with | some (.array _ _) | some (.struct _) => true | _ => false) = true := by rw [Try.underlying94]
theorem con_laid : laidOutB Try.prog = true := by kernel_rfl
theorem con_key : WideMaps.KeyLaw Try.prog 94 := deep_law_laid con_laid (m := 2) (by omega) con_row (by kernel_rfl) con_wide
theorem con_keyed : Keyed Try.prog 94 := Keyed.of_law con_key
def En.kv (q : Int × Int) : Value := .agg #[.int .u64 q.1, .int .u32 q.2]
theorem kv_inj {q q' : Int × Int} (h : En.kv q = En.kv q') : q = q' := by
  obtain ⟨a, b⟩ := q
  obtain ⟨a', b'⟩ := q'
  simp [En.kv] at h
  simp [h.1, h.2]
theorem kv_key (q : Int × Int) (h1 : (Lit.int .u64 q.1).wf = true) (h2 : (Lit.int .u32 q.2).wf = true) : ∃ kl, keyOf Try.prog 94 (En.kv q) = some kl := by
  have hs : ∃ m, Try.prog.types.size = m + 1 := Nat.exists_eq_succ_of_ne_zero (Nat.ne_of_gt (Nat.lt_of_le_of_lt (Nat.zero_le _) con_row))
  obtain ⟨m, hm⟩ := hs
  have hc : Try.prog.cellsOf 94 = 2 := by kernel_rfl
  have hc1 : Try.prog.cellsOf 22 = 1 := by kernel_rfl
  have hc2 : Try.prog.cellsOf 23 = 1 := by kernel_rfl
  have hf : (En.kv q).formed Try.prog 94 = true := by simp [En.kv, Value.formed, Try.underlying94, hc]
  unfold keyOf
  rw [Try.underlying94]
  simp only [con_deep, hf, Bool.and_self, if_true, hm]
  simp [Program.keyLits, Try.underlying94, Try.underlying22, Try.underlying23, En.kv, Value.cells, hc, hc1, hc2, h1, h2]
theorem con_zero (w : World) : (zeroValue 3).run Try.prog w = .ok (.int .i64 0) w := by kernel_rfl

/-- the map holds just the pairs ks -/
def ConMap (w : World) (b n : Nat) (ks : List (Int × Int)) : Prop :=
  ∃ D : DataW Unit, w.ownsMap Try.prog 94 (plainElem Try.prog 3) b n D ∧ (∀ q kl, keyOf Try.prog 94 (En.kv q) = some kl → has D kl = decide (q ∈ ks)) ∧ size D = ks.length
theorem ConMap.made (w : World) : ConMap (w.alloc (.map #[] 0)) w.heap.size 0 [] :=
  ⟨.map [], World.ownsMap_made _ _ _ _, fun q kl _ => by simp [Maps.has_eq], rfl⟩
theorem ConMap.drew {w : World} {b n : Nat} {ks : List (Int × Int)} (h : ConMap w b n ks) : ConMap w.drew b n ks := h
theorem ConMap.kept {w w' : World} {b n : Nat} {ks : List (Int × Int)} (h : ConMap w b n ks) (hb : Below w.heap.size w w') : ConMap w' b n ks := by
  obtain ⟨D, ⟨es, clock, h1, h2, h3, h4⟩, hr⟩ := h
  exact ⟨D, ⟨es, clock, blk_keep h1 hb, h2, h3, h4⟩, hr⟩
theorem ConMap.mono {w : World} {b n m : Nat} {ks : List (Int × Int)} (h : ConMap w b n ks) (hm : n ≤ m) : ConMap w b m ks := by
  obtain ⟨D, h1, h2⟩ := h
  exact ⟨D, h1.mono hm, h2⟩
theorem ConMap.lt {w : World} {b n : Nat} {ks : List (Int × Int)} (h : ConMap w b n ks) : b < w.heap.size := by
  obtain ⟨D, h1, _⟩ := h
  exact h1.lt
theorem ConMap.len {w : World} {b n : Nat} {ks : List (Int × Int)} (h : ConMap w b n ks) (ty : TypeId) : (Builtin.len_ #[92] ty #[.map (some b)]).run Try.prog w = .ok (.int .i64 ks.length) w := by
  obtain ⟨D, h1, _, h3⟩ := h
  rw [h1.len Try.underlying92 ty, h3]

theorem wf_wrap64 (n : Int) : (Lit.int .i64 (IntKind.i64.wrap n)).wf = true := by
  rw [IntKind.wrap_i64]
  simp [Lit.wf, IntKind.min, IntKind.max, IntKind.signed, IntKind.bits]
  omega
theorem setBlock_two (w : World) (b : Nat) (x y : Obj) : setBlock (setBlock w b x) b y = setBlock w b y := by
  simp [setBlock]

/-- the entry once laid, the lookup answers as it did -/
theorem look_after {w w1 : World} {b n : Nat} {D : DataW Unit} {key v : Value} {kl : Lit} {c : Int} (hown : w.ownsMap Try.prog 94 (plainElem Try.prog 3) b n D) (hn : n < maxLen) (hkey : keyOf Try.prog 94 key = some kl)
    (hlk : (Instr.lookup 92 (.map (some b)) key false).run Try.prog w = .ok (.int .i64 c) w) (hme : (Instr.mapEntry 92 (.map (some b)) key).run Try.prog w = .ok v w1) :
    (Instr.lookup 92 (.map (some b)) key false).run Try.prog w1 = .ok (.int .i64 c) w1 := by
  have htidy := hown.tidy con_keyed
  obtain ⟨c0, hlk0, hat0, _⟩ := hown.lookup_int con_keyed Try.underlying92 Try.underlying3 (con_zero w) hkey
  have hc0 : c0 = c := by
    have h := hlk.symm.trans hlk0
    simp only [Result.ok.injEq, Value.int.injEq, true_and, and_true] at h
    exact h.symm
  subst hc0
  have hz : plainElem (H := Unit) Try.prog 3 (.int .i64 0) = some (.lit (.int .i64 0), []) := plainElem_int Try.underlying3 (by decide)
  obtain ⟨w', hrun, hown', _⟩ := hown.update con_keyed Try.underlying92 hn hkey hz
  obtain ⟨es, clock, hb, F, hs, hD⟩ := hown
  have hlt : b < w.heap.size := (Array.getElem?_eq_some_iff.1 hb).1
  rcases con_keyed.find w hkey es.toList F.keys with ⟨h1, h2⟩ | ⟨j, e0, h1, h2, h3⟩
  · simp [Instr.mapEntry, run_underlying Try.underlying92, MapKept.run_getObj_map hb, con_keyed.check w false hkey, h1, MapKept.run_setObj_map _ hb, Result.andThen] at hme
    simp [Instr.mapUpdate, run_underlying Try.underlying92, MapKept.run_getObj_map hb, con_keyed.check w false hkey, h1, MapKept.run_setObj_map _ hb, Result.andThen] at hrun
    have hw : w1 = w' := hme.2.symm.trans hrun
    subst hw
    have hc : c0 = 0 := by
      simp [Instr.lookup, run_underlying Try.underlying92, MapKept.run_getObj_map hb, con_keyed.check w _ hkey, h1, Result.andThen] at hlk
      exact hlk.symm
    obtain ⟨c1, hlk1, hat1, _⟩ := hown'.lookup_int con_keyed Try.underlying92 Try.underlying3 (con_zero w1) hkey
    rw [Maps.atKey_put_same htidy.isMap (con_keyed.key hkey)] at hat1
    injection hat1 with hat1
    injection hat1 with _ hat1
    rw [hlk1, hc, ← hat1]
  · have hj : es[j]? = some e0 := by simpa using h2
    have hsame : es.modify j (fun e => { e with key := key }) = es := by
      apply Array.ext'
      rw [Array.toList_modify, modify_eq_set _ _ _ _ h2]
      have : ({ e0 with key := key } : MapEntry) = e0 := by rw [← h3]
      rw [this]
      exact WideElems.set_self _ _ _ h2
    simp [Instr.mapEntry, run_underlying Try.underlying92, MapKept.run_getObj_map hb, con_keyed.check w false hkey, h1, hj, h3, con_keyed.stays w hkey, hsame, MapKept.run_setObj_map _ hb, Result.andThen] at hme
    have hb1 : w1.heap[b]? = some (.map es clock) := by rw [← hme.2]; simp [hlt]
    have hown1 : w1.ownsMap Try.prog 94 (plainElem Try.prog 3) b n D := ⟨es, clock, hb1, F, hs, hD⟩
    obtain ⟨c1, hlk1, hat1, _⟩ := hown1.lookup_int con_keyed Try.underlying92 Try.underlying3 (con_zero w1) hkey
    rw [hat0] at hat1
    injection hat1 with hat1
    injection hat1 with _ hat1
    rw [hlk1, ← hat1]

/-- 'm[k]++' -/
theorem ConMap.incr {w : World} {b n : Nat} {ks : List (Int × Int)} (h : ConMap w b n ks) (hn : n < maxLen) (q : Int × Int) (h1 : (Lit.int .u64 q.1).wf = true) (h2 : (Lit.int .u32 q.2).wf = true) :
    ∃ (c v0 st : Int) (w1 w2 : World), (Instr.lookup 92 (.map (some b)) (En.kv q) false).run Try.prog w = .ok (.int .i64 c) w ∧
      (Instr.mapEntry 92 (.map (some b)) (En.kv q)).run Try.prog w = .ok (.tuple #[.int .i64 v0, .int .i64 st]) w1 ∧
      (Instr.entryStore 92 (.map (some b)) (.int .i64 st) (.int .i64 (IntKind.i64.wrap (c + 1)))).run Try.prog w1 = .ok () w2 ∧
      (Instr.lookup 92 (.map (some b)) (En.kv q) false).run Try.prog w1 = .ok (.int .i64 c) w1 ∧
      ConMap w2 b (n + 1) (if q ∈ ks then ks else ks ++ [q]) ∧ w.grownBy w2 (some b) := by
  obtain ⟨D, hown, hhas, hsz⟩ := h
  obtain ⟨kl, hkey⟩ := kv_key q h1 h2
  obtain ⟨c, hlk, hat, hwc⟩ := hown.lookup_int con_keyed Try.underlying92 Try.underlying3 (con_zero w) hkey
  have htidy := hown.tidy con_keyed
  have hwf := wf_wrap64 (c + 1)
  obtain ⟨w', hrun, hown', hgrow⟩ := hown.update con_keyed Try.underlying92 hn hkey (plainElem_int Try.underlying3 hwf)
  have hown0 := hown
  obtain ⟨es, clock, hb, F, _, _⟩ := hown
  obtain ⟨v0, st, es1, clock1, hme, hv0, hst⟩ := WideElems.entry_then_store con_key Try.underlying92 con_zero hb F hkey
  have hlt : b < w.heap.size := (Array.getElem?_eq_some_iff.1 hb).1
  have hb1 : (setBlock w b (.map es1 clock1)).heap[b]? = some (.map es1 clock1) := by simp [setBlock, hlt]
  obtain ⟨es', clock', hes, hmu⟩ := hst (setBlock w b (.map es1 clock1)) (.int .i64 (IntKind.i64.wrap (c + 1))) hb1
  rw [setBlock_two] at hes
  rw [hmu] at hrun
  injection hrun with _ hw'
  have hv : ∃ a, v0 = .int .i64 a := by
    rcases hv0 with ⟨e0, he0, _, rfl⟩ | ⟨_, rfl⟩
    · obtain ⟨y, hy⟩ := F.reads e0 he0
      obtain ⟨z, hz, _⟩ := WideElems.rd_val hy
      obtain ⟨a, ha, _⟩ := plainElem_int_inv Try.underlying3 hz
      exact ⟨a, ha⟩
    · exact ⟨0, rfl⟩
  obtain ⟨a, rfl⟩ := hv
  refine ⟨c, a, st, _, w', hlk, hme, ?_, look_after hown0 hn hkey hlk hme, ⟨_, hown', ?_, ?_⟩, hgrow⟩
  · rw [← hw']; exact hes
  · intro q' kl' hk'
    by_cases e : q' = q
    · rw [e] at hk' ⊢
      rw [hkey] at hk'
      have hkk : kl = kl' := Option.some.inj hk'
      rw [← hkk]
      rw [Maps.has_put_same htidy.isMap (con_keyed.key hkey)]
      have hin : q ∈ (if q ∈ ks then ks else ks ++ [q]) := by
        by_cases h : q ∈ ks
        · rw [if_pos h]; exact h
        · rw [if_neg h]; simp
      exact (decide_eq_true hin).symm
    · have hne : kl' ≠ kl := fun e' => e (kv_inj (con_keyed.inj (hk'.trans (by rw [e'])) hkey))
      rw [Maps.has_put_other hne, hhas q' kl' hk']
      split
      · rfl
      · simp [e]
  · rw [Maps.size_put htidy, hhas q kl hkey]
    by_cases e : q ∈ ks <;> simp [e, hsz]

end Go.Proofs.Ytbojffednfiegaa
