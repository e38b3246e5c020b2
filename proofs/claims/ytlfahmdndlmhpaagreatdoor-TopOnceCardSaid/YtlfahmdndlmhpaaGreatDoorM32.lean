/- A map from (offset, length) to a count, that the call makes: what an increment does. The program's count of contents. -/
import Derived.Test.YtlfahmdndlmhpaaGreatDoorM25
import Derived.Maps.OwnSet
import Derived.WideKeyEntry
import Derived.DeepKeys4
import Derived.IntWalk
import Derived.StillTailTactics
namespace Go.Proofs.YtlfahmdndlmhpaaGreatDoor
open Go.RowKit Go.ChangeMaps Go.MapKept
open Go.WideElems (Fit rd rg)
open Go.Maps (Keyed has size)
set_option maxRecDepth 100000

theorem con_row : (183 : TypeId) < Tryz.prog.types.size := of_decide_eq_true (by kernel_rfl)
theorem con_deep : Tryz.prog.keyType 183 = true := by kernel_rfl
theorem con_wide : (match Tryz.prog.underlying 183 with | some (.array _ _) | some (.struct _) => true | _ => false) = true := by rw [Tryz.underlying183]
theorem con_laid : laidOutB Tryz.prog = true := by kernel_rfl
set_option maxRecDepth 100000 in
theorem con_key : WideMaps.KeyLaw Tryz.prog 183 := deep_law_laid con_laid (m := 2) (by omega) con_row (by kernel_rfl) con_wide
theorem con_keyed : Keyed Tryz.prog 183 := Keyed.of_law con_key
def En.kv (q : Int × Int) : Value := .agg #[.int .u64 q.1, .int .u32 q.2]
theorem kv_inj {q q' : Int × Int} (h : En.kv q = En.kv q') : q = q' := by
  obtain ⟨a, b⟩ := q
  obtain ⟨a', b'⟩ := q'
  simp [En.kv] at h
  simp [h.1, h.2]
theorem kv_key (q : Int × Int) (h1 : (Lit.int .u64 q.1).wf = true) (h2 : (Lit.int .u32 q.2).wf = true) : ∃ kl, keyOf Tryz.prog 183 (En.kv q) = some kl := by
  have hs : ∃ m, Tryz.prog.types.size = m + 1 := Nat.exists_eq_succ_of_ne_zero (Nat.ne_of_gt (Nat.lt_of_le_of_lt (Nat.zero_le _) con_row))
  obtain ⟨m, hm⟩ := hs
  have hc : Tryz.prog.cellsOf 183 = 2 := by kernel_rfl
  have hc1 : Tryz.prog.cellsOf 40 = 1 := by kernel_rfl
  have hc2 : Tryz.prog.cellsOf 41 = 1 := by kernel_rfl
  have hf : (En.kv q).formed Tryz.prog 183 = true := by simp [En.kv, Value.formed, Tryz.underlying183, hc]
  unfold keyOf
  rw [Tryz.underlying183]
  simp only [con_deep, hf, Bool.and_self, if_true, hm]
  simp [Program.keyLits, Tryz.underlying183, Tryz.underlying40, Tryz.underlying41, En.kv, Value.cells, hc, hc1, hc2, h1, h2]
theorem con_zero (w : World) : (zeroValue 3).run Tryz.prog w = .ok (.int .i64 0) w := by kernel_rfl

/-- the map holds just the pairs ks -/
def ConMap (w : World) (b n : Nat) (ks : List (Int × Int)) : Prop :=
  ∃ D : DataW Unit, w.ownsMap Tryz.prog 183 (plainElem Tryz.prog 3) b n D ∧ (∀ q kl, keyOf Tryz.prog 183 (En.kv q) = some kl → has D kl = decide (q ∈ ks)) ∧ size D = ks.length
theorem ConMap.made (w : World) : ConMap (w.alloc (.map #[] 0)) w.heap.size 0 [] :=
  ⟨.map [], World.ownsMap_made _ _ _ _, fun q kl _ => by simp [Maps.has_eq], rfl⟩
theorem ConMap.drew {w : World} {b n : Nat} {ks : List (Int × Int)} (h : ConMap w b n ks) : ConMap w.drew b n ks := h
theorem ConMap.kept {w w' : World} {b n : Nat} {ks : List (Int × Int)} (h : ConMap w b n ks) (hb : Below w.heap.size w w') : ConMap w' b n ks := by
  obtain ⟨D, ⟨es, clock, h1, h2, h3, h4⟩, hr⟩ := h
  exact ⟨D, ⟨es, clock, blk_keep h1 hb, h2, h3, h4⟩, hr⟩
theorem ConMap.mono {w : World} {b n m : Nat} {ks : List (Int × Int)} (h : ConMap w b n ks) (hm : n ≤ m) : ConMap w b m ks := by
  obtain ⟨D, h1, h2⟩ := h
  exact ⟨D, h1.mono hm, h2⟩
theorem ConMap.lt {w : World} {b n : Nat} {ks : List (Int × Int)} (h : ConMap w b n ks) : b < w.heap.size := by
  obtain ⟨D, h1, _⟩ := h
  exact h1.lt
theorem ConMap.len {w : World} {b n : Nat} {ks : List (Int × Int)} (h : ConMap w b n ks) (ty : TypeId) : (Builtin.len_ #[181] ty #[.map (some b)]).run Tryz.prog w = .ok (.int .i64 ks.length) w := by
  obtain ⟨D, h1, _, h3⟩ := h
  rw [h1.len Tryz.underlying181 ty, h3]

theorem wf_wrap64 (n : Int) : (Lit.int .i64 (IntKind.i64.wrap n)).wf = true := by
  rw [IntKind.wrap_i64]
  simp [Lit.wf, IntKind.min, IntKind.max, IntKind.signed, IntKind.bits]
  omega
theorem setBlock_two (w : World) (b : Nat) (x y : Obj) : setBlock (setBlock w b x) b y = setBlock w b y := by
  simp [setBlock]

/-- the entry once laid, the lookup answers as it did -/
theorem look_after {w w1 : World} {b n : Nat} {D : DataW Unit} {key v : Value} {kl : Lit} {c : Int} (hown : w.ownsMap Tryz.prog 183 (plainElem Tryz.prog 3) b n D) (hn : n < maxLen) (hkey : keyOf Tryz.prog 183 key = some kl)
    (hlk : (Instr.lookup 181 (.map (some b)) key false).run Tryz.prog w = .ok (.int .i64 c) w) (hme : (Instr.mapEntry 181 (.map (some b)) key).run Tryz.prog w = .ok v w1) :
    (Instr.lookup 181 (.map (some b)) key false).run Tryz.prog w1 = .ok (.int .i64 c) w1 := by
  have htidy := hown.tidy con_keyed
  obtain ⟨c0, hlk0, hat0, _⟩ := hown.lookup_int con_keyed Tryz.underlying181 Tryz.underlying3 (con_zero w) hkey
  have hc0 : c0 = c := by
    have h := hlk.symm.trans hlk0
    simp only [Result.ok.injEq, Value.int.injEq, true_and, and_true] at h
    exact h.symm
  subst hc0
  have hz : plainElem (H := Unit) Tryz.prog 3 (.int .i64 0) = some (.lit (.int .i64 0), []) := plainElem_int Tryz.underlying3 (by decide)
  obtain ⟨w', hrun, hown', _⟩ := hown.update con_keyed Tryz.underlying181 hn hkey hz
  obtain ⟨es, clock, hb, F, hs, hD⟩ := hown
  have hlt : b < w.heap.size := (Array.getElem?_eq_some_iff.1 hb).1
  rcases con_keyed.find w hkey es.toList F.keys with ⟨h1, h2⟩ | ⟨j, e0, h1, h2, h3⟩
  · simp [Instr.mapEntry, run_underlying Tryz.underlying181, MapKept.run_getObj_map hb, con_keyed.check w false hkey, h1, MapKept.run_setObj_map _ hb, Result.andThen] at hme
    simp [Instr.mapUpdate, run_underlying Tryz.underlying181, MapKept.run_getObj_map hb, con_keyed.check w false hkey, h1, MapKept.run_setObj_map _ hb, Result.andThen] at hrun
    have hw : w1 = w' := hme.2.symm.trans hrun
    subst hw
    have hc : c0 = 0 := by
      simp [Instr.lookup, run_underlying Tryz.underlying181, MapKept.run_getObj_map hb, con_keyed.check w _ hkey, h1, Result.andThen] at hlk
      exact hlk.symm
    obtain ⟨c1, hlk1, hat1, _⟩ := hown'.lookup_int con_keyed Tryz.underlying181 Tryz.underlying3 (con_zero w1) hkey
    rw [Maps.atKey_put_same htidy.isMap (con_keyed.key hkey)] at hat1
    injection hat1 with hat1
    injection hat1 with _ hat1
    rw [hlk1, hc, ← hat1]
  · have hj : es[j]? = some e0 := by simpa using h2
    have hsame : es.modify j (fun e => { e with key := key }) = es := by
      apply Array.ext'
      rw [Array.toList_modify, modify_eq_set _ _ _ _ h2]
      have : ({ e0 with key := key } : MapEntry) = e0 := by rw [← h3]
      rw [this]
      exact WideElems.set_self _ _ _ h2
    simp [Instr.mapEntry, run_underlying Tryz.underlying181, MapKept.run_getObj_map hb, con_keyed.check w false hkey, h1, hj, h3, con_keyed.stays w hkey, hsame, MapKept.run_setObj_map _ hb, Result.andThen] at hme
    have hb1 : w1.heap[b]? = some (.map es clock) := by rw [← hme.2]; simp [hlt]
    have hown1 : w1.ownsMap Tryz.prog 183 (plainElem Tryz.prog 3) b n D := ⟨es, clock, hb1, F, hs, hD⟩
    obtain ⟨c1, hlk1, hat1, _⟩ := hown1.lookup_int con_keyed Tryz.underlying181 Tryz.underlying3 (con_zero w1) hkey
    rw [hat0] at hat1
    injection hat1 with hat1
    injection hat1 with _ hat1
    rw [hlk1, ← hat1]

/-- 'm[k]++' -/
theorem ConMap.incr {w : World} {b n : Nat} {ks : List (Int × Int)} (h : ConMap w b n ks) (hn : n < maxLen) (q : Int × Int) (h1 : (Lit.int .u64 q.1).wf = true) (h2 : (Lit.int .u32 q.2).wf = true) :
    ∃ (c v0 st : Int) (w1 w2 : World), (Instr.lookup 181 (.map (some b)) (En.kv q) false).run Tryz.prog w = .ok (.int .i64 c) w ∧
      (Instr.mapEntry 181 (.map (some b)) (En.kv q)).run Tryz.prog w = .ok (.tuple #[.int .i64 v0, .int .i64 st]) w1 ∧
      (Instr.entryStore 181 (.map (some b)) (.int .i64 st) (.int .i64 (IntKind.i64.wrap (c + 1)))).run Tryz.prog w1 = .ok () w2 ∧
      (Instr.lookup 181 (.map (some b)) (En.kv q) false).run Tryz.prog w1 = .ok (.int .i64 c) w1 ∧
      ConMap w2 b (n + 1) (if q ∈ ks then ks else ks ++ [q]) ∧ w.grownBy w2 (some b) := by
  obtain ⟨D, hown, hhas, hsz⟩ := h
  obtain ⟨kl, hkey⟩ := kv_key q h1 h2
  obtain ⟨c, hlk, hat, hwc⟩ := hown.lookup_int con_keyed Tryz.underlying181 Tryz.underlying3 (con_zero w) hkey
  have htidy := hown.tidy con_keyed
  have hwf := wf_wrap64 (c + 1)
  obtain ⟨w', hrun, hown', hgrow⟩ := hown.update con_keyed Tryz.underlying181 hn hkey (plainElem_int Tryz.underlying3 hwf)
  have hown0 := hown
  obtain ⟨es, clock, hb, F, _, _⟩ := hown
  obtain ⟨v0, st, es1, clock1, hme, hv0, hst⟩ := WideElems.entry_then_store con_key Tryz.underlying181 con_zero hb F hkey
  have hlt : b < w.heap.size := (Array.getElem?_eq_some_iff.1 hb).1
  have hb1 : (setBlock w b (.map es1 clock1)).heap[b]? = some (.map es1 clock1) := by simp [setBlock, hlt]
  obtain ⟨es', clock', hes, hmu⟩ := hst (setBlock w b (.map es1 clock1)) (.int .i64 (IntKind.i64.wrap (c + 1))) hb1
  rw [setBlock_two] at hes
  rw [hmu] at hrun
  injection hrun with _ hw'
  have hv : ∃ a, v0 = .int .i64 a := by
    rcases hv0 with ⟨e0, he0, _, rfl⟩ | ⟨_, rfl⟩
    · obtain ⟨y, hy⟩ := F.reads e0 he0
      obtain ⟨z, hz, _⟩ := WideElems.rd_val hy
      obtain ⟨a, ha, _⟩ := plainElem_int_inv Tryz.underlying3 hz
      exact ⟨a, ha⟩
    · exact ⟨0, rfl⟩
  obtain ⟨a, rfl⟩ := hv
  refine ⟨c, a, st, _, w', hlk, hme, ?_, look_after hown0 hn hkey hlk hme, ⟨_, hown', ?_, ?_⟩, hgrow⟩
  · rw [← hw']; exact hes
  · intro q' kl' hk'
    by_cases e : q' = q
    · rw [e] at hk' ⊢
      rw [hkey] at hk'
      have hkk : kl = kl' := Option.some.inj hk'
      rw [← hkk]
      rw [Maps.has_put_same htidy.isMap (con_keyed.key hkey)]
      have hin : q ∈ (if q ∈ ks then ks else ks ++ [q]) := by
        by_cases h : q ∈ ks
        · rw [if_pos h]; exact h
        · rw [if_neg h]; simp
      exact (decide_eq_true hin).symm
    · have hne : kl' ≠ kl := fun e' => e (kv_inj (con_keyed.inj (hk'.trans (by rw [e'])) hkey))
      rw [Maps.has_put_other hne, hhas q' kl' hk']
      split
      · rfl
      · simp [e]
  · rw [Maps.size_put htidy, hhas q kl hkey]
    by_cases e : q ∈ ks <;> simp [e, hsz]

end Go.Proofs.YtlfahmdndlmhpaaGreatDoor
namespace Go.Proofs.YtlfahmdndlmhpaaGreatDoor
open Go.RowKit

theorem wf_of_u64 {a : Int} (h0 : 0 ≤ a) (h1 : a < 18446744073709551616) : (Lit.int .u64 a).wf = true := by
  simp [Lit.wf, IntKind.min, IntKind.max, IntKind.signed, IntKind.bits]; omega
theorem wf_of_u32 {a : Int} (h0 : 0 ≤ a) (h1 : a < 4294967296) : (Lit.int .u32 a).wf = true := by
  simp [Lit.wf, IntKind.min, IntKind.max, IntKind.signed, IntKind.bits]; omega

set_option maxRecDepth 100000 in
set_option maxHeartbeats 2000000 in
theorem con_any (A : Option Addr) (n cap : Nat) (L : List Ent) (B : Nat) (w : World) (hr : Reads w B 4 A n (ecells L)) (hn : n = L.length) (hf : En.fits L) (hB : B ≤ w.heap.size) (hm : n ≤ 65536) :
    Calls Tryz.prog 57 #[.slice A n cap] w fun e w' => e = .returned (.int .i64 (En.con L)) ∧ Below w.heap.size w w' := by
  have hmm := @run_makeMap Tryz.prog
  rcases Nat.eq_zero_or_pos n with h0 | h0
  · have hL : L = [] := List.eq_nil_of_length_eq_zero (by omega)
    subst hL
    subst h0
    have hl0 := ConMap.len (ConMap.made w)
    clear hr hn hf
    go_enter Tryz.func57, Tryz.ntmps57
    go_wp2_with fail
    go_loopw [9] (fun ci wr => ci = .int .i64 0 ∧ wr = w.alloc (.map #[] 0)) (fun ci _ => 4 - (intOf ci).toNat)
    case atStart => exact ⟨rfl, rfl⟩
    case round =>
      obtain ⟨rfl, rfl⟩ := hrel
      go_wp2_with fail
      go_ret
      exact ⟨rfl, blk_new _ _⟩
  · obtain ⟨g, off, rfl, hgB⟩ := hr.plain h0 hn
    have HR := Lib.hid hr
    have HN := Lib.hid hn
    have HF := Lib.hid hf
    clear hr hn hf
    go_enter Tryz.func57, Tryz.ntmps57
    go_wp2_with fail
    go_loopw [9] (fun ci wr => ∃ k : Nat, k ≤ n ∧ ci = .int .i64 k ∧ Hid (ConMap wr w.heap.size k (En.keys (L.take k))) ∧ Below w.heap.size w wr) (fun ci _ => n - (intOf ci).toNat)
    case atStart => exact ⟨0, by omega, rfl, Lib.hid (ConMap.made w), blk_new _ _⟩
    case round =>
      obtain ⟨k, hk, rfl, hM, hbl⟩ := hrel
      by_cases hlt : k < n
      · have hlt' : k < L.length := by rw [← HN.out]; exact hlt
        obtain ⟨c0, c1, c2, c3⟩ := ((HR.out.more hB).below hbl).ent HN.out k hlt'
        have hg := HF.out _ (List.getElem_mem hlt')
        have hnx := En.keys_step L k hlt'
        obtain ⟨⟨i, o, l, r⟩, he⟩ : ∃ e, e = L[k]'hlt' := ⟨_, rfl⟩
        rw [← he] at c0 c1 c2 c3 hg hnx
        have hg' : En.fit i o l r := hg
        have hnx' : En.keys (L.take (k + 1)) = if (En.ck i o l r = 0 ∧ 0 < r) ∧ (o, l) ∉ En.keys (L.take k) then En.keys (L.take k) ++ [(o, l)] else En.keys (L.take k) := by
          rw [hnx]; unfold En.addK En.p En.key; simp only [decide_eq_true_eq]; rfl
        have HG := Lib.hid hg'
        have HNX := Lib.hid hnx'
        obtain ⟨_, ⟨o0, o1⟩, ⟨l0, l1⟩, r0, r1⟩ := hg'
        clear he hg hnx hnx'
        by_cases q : En.ck i o l r = 0
        · have hq : (En.ck i o l r == 0) = true := by rw [q]; rfl
          have HQ := Lib.hid q
          clear q
          by_cases q1 : 0 < r
          · have hq1 : decide (0 < r) = true := decide_eq_true q1
            go_wp2_with fail
            refine (may_any _ _ _ _ HG.out _).mono ?_; rintro e w1 ⟨rfl, hb⟩
            have hA := Lib.hid (blk_one hb).1
            have hs := Lib.hid (blk_one hb).2.1
            have hM1 := (hM.out.kept (blk_one hb).2.2)
            have hw := bthen2 (blk_one hb).2.2 hbl
            obtain ⟨a0, a1, a2, a3⟩ := blk_cells4 hA.out
            obtain ⟨c, v0, st, w2, w3, hlk, hme, hes, hl2, hM3, hgr⟩ := hM1.drew.incr (by unfold maxLen; omega) (o, l) (wf_of_u64 o0 o1) (wf_of_u32 l0 l1)
            unfold En.kv at hlk hme hl2
            have hkk : En.keys (L.take (k + 1)) = if (o, l) ∈ En.keys (L.take k) then En.keys (L.take k) else En.keys (L.take k) ++ [(o, l)] := by
              rw [HNX.out]
              by_cases m : (o, l) ∈ En.keys (L.take k)
              · rw [if_pos m, if_neg (fun h => h.2 m)]
              · rw [if_neg m, if_pos ⟨⟨HQ.out, q1⟩, m⟩]
            rw [← hkk] at hM3
            have HM := Lib.hid hM3
            have hw3 : Below w.heap.size w w3 := hw.drew.grown hgr hw.size (fun g hg => by injection hg with hg; omega)
            clear hb hM hM1 hM3 hgr hkk
            go_wp2_with fail
            go_region
            all_goals
              go_wp2_with fail
              exact ⟨⟨k + 1, by omega, by go_num, HM, hw3⟩, by simp [intOf]; omega⟩
          · have hq1 : decide (0 < r) = false := decide_eq_false q1
            have hkk : En.keys (L.take (k + 1)) = En.keys (L.take k) := by rw [HNX.out, if_neg (fun h => q1 h.1.2)]
            go_wp2_with fail
            refine (may_any _ _ _ _ HG.out _).mono ?_; rintro e w1 ⟨rfl, hb⟩
            have hA := Lib.hid (blk_one hb).1
            have hM1 := (hM.out.kept (blk_one hb).2.2).mono (Nat.le_succ k)
            rw [← hkk] at hM1
            have HM := Lib.hid hM1
            have hw := bthen2 (blk_one hb).2.2 hbl
            obtain ⟨a0, a1, a2, a3⟩ := blk_cells4 hA.out
            clear hb hM hM1 hkk
            go_wp2_with fail
            exact ⟨⟨k + 1, by omega, by go_num, HM, hw⟩, by simp [intOf]; omega⟩
        · have hq : (En.ck i o l r == 0) = false := by rw [beq_eq_false_iff_ne]; exact q
          have hkk : En.keys (L.take (k + 1)) = En.keys (L.take k) := by rw [HNX.out, if_neg (fun h => q h.1.1)]
          clear q
          go_wp2_with fail
          refine (may_any _ _ _ _ HG.out _).mono ?_; rintro e w1 ⟨rfl, hb⟩
          have hA := Lib.hid (blk_one hb).1
          have hM1 := (hM.out.kept (blk_one hb).2.2).mono (Nat.le_succ k)
          rw [← hkk] at hM1
          have HM := Lib.hid hM1
          have hw := bthen2 (blk_one hb).2.2 hbl
          obtain ⟨a0, a1, a2, a3⟩ := blk_cells4 hA.out
          clear hb hM hM1 hkk
          go_wp2_with fail
          exact ⟨⟨k + 1, by omega, by go_num, HM, hw⟩, by simp [intOf]; omega⟩
      · have hkn : k = n := by omega
        subst hkn
        have hz : L.take k = L := List.take_of_length_le (by rw [← HN.out]; omega)
        have hl := ConMap.len hM.out
        rw [hz] at hl
        have hl' : ∀ ty, (Builtin.len_ #[181] ty #[.map (some w.heap.size)]).run Tryz.prog wr = .ok (.int .i64 (En.con L)) wr := hl
        clear hl hz
        go_wp2_with fail
        go_ret
        exact ⟨rfl, hbl⟩

end Go.Proofs.YtlfahmdndlmhpaaGreatDoor
