/- A directory that is taken column by column: one number more; plain. The walk of a directory's Decode. -/
import Derived.Test.YtlfahmdndlmhpaaGreatDoorM30
import Derived.Test.YtlfahmdndlmhpaaGreatDoorM08
import Derived.Laws.MakeOwn
import Derived.Test.YtlfahmdndlmhpaaGreatDoorM18
import Derived.Test.YtlfahmdndlmhpaaGreatDoorM06
import Derived.Test.YtlfahmdndlmhpaaGreatDoorM23
import Derived.Deep.Cut
import Derived.OwnWalk
import Derived.Laws.BytesArg
namespace Go.Proofs.YtlfahmdndlmhpaaGreatDoor
open Go.RowKit

/-- the entry ahead, as far as it is there -/
def Dr.ahd (L : List Ent) (c i : Nat) : Ent := if i = 0 then Dr.z else Dr.part L c i (i - 1)
theorem Dr.ahd_zero (L : List Ent) (c : Nat) : Dr.ahd L c 0 = Dr.z := rfl
theorem Dr.ahd_succ (L : List Ent) (c i : Nat) : Dr.ahd L c (i + 1) = Dr.part L c (i + 1) i := by
  unfold Dr.ahd; rw [if_neg (by omega), Nat.add_sub_cancel]
theorem Dr.ahd_fit {L : List Ent} (hf : En.fits L) (c i : Nat) : En.good (Dr.ahd L c i) := by
  unfold Dr.ahd
  split
  · unfold En.good En.fit; simp [Dr.z]
  · exact Dr.part_fit hf c i _
theorem Dr.ahd_sum {L : List Ent} (h : En.fine L) (hf : En.fits L) (c i : Nat) (hi : i ≤ L.length) : (Dr.ahd L c i).2.1 + (Dr.ahd L c i).2.2.1 ≤ 1099511627776 := by
  cases i with
  | zero => simp [Dr.ahd_zero, Dr.z]
  | succ i =>
    rw [Dr.ahd_succ]
    have h1 := En.ck_end (h.c i (by omega))
    have h2 := hf _ (List.getElem_mem (by omega : i < L.length))
    obtain ⟨_, ⟨o0, _⟩, ⟨l0, _⟩, _⟩ := h2
    unfold Dr.part
    dsimp only
    rw [Dr.getD_at L i (by omega)]
    split <;> split <;> omega
theorem Dr.ahd_id {L : List Ent} (i : Nat) (hi : i ≤ L.length) : (Dr.ahd L 0 i).1 = (Dr.ahead L i).1 := by
  cases i with
  | zero => rfl
  | succ i =>
    rw [Dr.ahd_succ, Dr.ahead_succ L i (by omega), Dr.part, Dr.getD_at L i (by omega)]
    simp
theorem Dr.ahd_off {L : List Ent} (i : Nat) (hi : i ≤ L.length) : (Dr.ahd L 3 i).2.1 = (Dr.ahead L i).2.1 ∧ (Dr.ahd L 3 i).2.2.1 = (Dr.ahead L i).2.2.1 := by
  cases i with
  | zero => exact ⟨rfl, rfl⟩
  | succ i =>
    rw [Dr.ahd_succ, Dr.ahead_succ L i (by omega), Dr.part, Dr.getD_at L i (by omega)]
    simp
theorem Dr.ok_at {L : List Ent} (h : En.fine L) (hf : En.fits L) (c i : Nat) (hi : i < L.length) : Dr.okx c i (Dr.ahd L c i) (Dr.at_ L c i) := by
  obtain ⟨x0, x1⟩ := Dr.at_fits h hf c i hi
  have hg := hf _ (List.getElem_mem hi)
  obtain ⟨⟨i0, i1⟩, ⟨o0, o1⟩, ⟨l0, l1⟩, r0, r1⟩ := hg
  refine ⟨x0, x1, fun e => ?_, fun e => ?_, fun e => ?_, fun e => ?_⟩
  · subst e
    rw [Dr.ahd_id i (by omega)]
    unfold Dr.at_ Dr.num
    rw [Dr.getD_at L i hi]
    simp only [if_true]
    omega
  · subst e
    unfold Dr.at_ Dr.num
    rw [Dr.getD_at L i hi]
    simpa using r1
  · subst e
    unfold Dr.at_ Dr.num
    rw [Dr.getD_at L i hi]
    simpa using l1
  · subst e
    obtain ⟨e1, e2⟩ := Dr.ahd_off (L := L) i (by omega)
    rw [e1, e2]
    unfold Dr.at_ Dr.num
    rw [Dr.getD_at L i hi]
    simp only [show ¬ (3 = 0) by omega, show ¬ (3 = 1) by omega, show ¬ (3 = 2) by omega, if_false]
    split
    · rename_i q
      exact ⟨fun _ => q.1, fun h => by omega⟩
    · rename_i q
      refine ⟨fun h => by omega, fun _ h2 h3 => q ⟨h2, by omega⟩⟩
theorem Dr.step_vals {L : List Ent} (hf : En.fits L) (c i : Nat) (hc : c < 4) (hi : i < L.length) : En.vals (Dr.part L c (i + 1) i) = (En.vals (Dr.part L c i i)).set (Dr.fld c) (Dr.new c (Dr.ahd L c i) (Dr.at_ L c i)) := by
  have hg := hf _ (List.getElem_mem hi)
  obtain ⟨⟨i0, i1⟩, ⟨o0, o1⟩, ⟨l0, l1⟩, r0, r1⟩ := hg
  rcases (show c = 0 ∨ c = 1 ∨ c = 2 ∨ c = 3 by omega) with rfl | rfl | rfl | rfl
  · unfold Dr.new
    rw [Dr.ahd_id i (by omega)]
    unfold Dr.at_ Dr.num En.vals Dr.part Dr.fld
    rw [Dr.getD_at L i hi]
    simp
    omega
  · unfold Dr.new Dr.at_ Dr.num En.vals Dr.part Dr.fld
    rw [Dr.getD_at L i hi]
    simp
  · unfold Dr.new Dr.at_ Dr.num En.vals Dr.part Dr.fld
    rw [Dr.getD_at L i hi]
    simp
  · unfold Dr.new
    obtain ⟨e1, e2⟩ := Dr.ahd_off (L := L) i (by omega)
    rw [e1, e2]
    unfold Dr.at_ Dr.num En.vals Dr.part Dr.fld
    rw [Dr.getD_at L i hi]
    by_cases q : 0 < i ∧ (L[i]'hi).2.1 = (Dr.ahead L i).2.1 + (Dr.ahead L i).2.2.1
    · simp [q]
    · simp [q]
      omega
theorem Dr.step_cells {L : List Ent} (hf : En.fits L) (c i : Nat) (hc : c < 4) (hi : i < L.length) : (ecells (Dr.parts L c i)).set (i * 4 + Dr.fld c) (Dr.new c (Dr.ahd L c i) (Dr.at_ L c i)) = ecells (Dr.parts L c (i + 1)) := by
  have hp : i < (Dr.parts L c i).length := by rw [Dr.parts_len]; exact hi
  rw [Dr.parts_step, ecells_set (Dr.parts L c i) i (Dr.fld c) _ (Dr.part L c (i + 1) i) hp (by unfold Dr.fld; split <;> (try split) <;> (try split) <;> omega)]
  rw [Dr.parts_at]
  exact Dr.step_vals hf c i hc hi
/-- a directory that was made -/
theorem Dr.made (L : List Ent) : madeCells (Value.agg #[.int .u64 0, .int .u64 0, .int .u32 0, .int .u32 0]).cells (L.length * 4) = (ecells (Dr.parts L 0 0)).toArray := by
  rw [Dr.parts_zero]
  have hlen : (ecells (List.replicate L.length Dr.z)).length = L.length * 4 := by rw [ecells_len, List.length_replicate]
  refine Array.ext (by rw [size_madeCells, List.size_toArray, hlen]) fun k h1 h2 => ?_
  rw [size_madeCells] at h1
  have hk : k / 4 < (List.replicate L.length Dr.z).length := by rw [List.length_replicate]; omega
  have h3 := ecells_get (List.replicate L.length Dr.z) (k / 4) (k % 4) hk (Nat.mod_lt _ (by omega))
  rw [show k / 4 * 4 + k % 4 = k by omega, List.getElem_replicate, List.getElem?_eq_getElem (by rw [hlen]; exact h1)] at h3
  have hm : k % 4 < 4 := Nat.mod_lt _ (by omega)
  have h4 : (madeCells (Value.agg #[.int .u64 0, .int .u64 0, .int .u32 0, .int .u32 0]).cells (L.length * 4))[k]'(by rw [size_madeCells]; exact h1) = #[Value.int .u64 0, .int .u64 0, .int .u32 0, .int .u32 0][k % 4]! := by simp [madeCells, Value.cells]
  refine h4.trans ?_
  show #[Value.int .u64 0, .int .u64 0, .int .u32 0, .int .u32 0][k % 4]! = _
  rw [List.getElem_toArray]
  generalize k % 4 = j at h3 hm
  rcases (show j = 0 ∨ j = 1 ∨ j = 2 ∨ j = 3 by omega) with rfl | rfl | rfl | rfl <;> simp [En.vals, Dr.z] at h3 ⊢ <;> exact h3.symm
end Go.Proofs.YtlfahmdndlmhpaaGreatDoor
namespace Go.Proofs.YtlfahmdndlmhpaaGreatDoor
open Go.RowKit

def DecPost (L : List Ent) (n : Nat) (w : World) (x : Ending) (w' : World) : Prop := ∃ v, x = .returned (.tuple #[v, .int .i64 (n : Int), .int .i64 0]) ∧ w'.ownsRow w.heap.size 43 4 v L.length (ecells L) ∧ Below w.heap.size w w'
set_option maxRecDepth 100000 in
set_option maxHeartbeats 4000000 in
theorem ddec_any (s : ByteArray) (L : List Ent) (hs : s = strOfNums (Dr.enc L)) (hL : En.fine L) (hf : En.fits L) (hl : L.length ≤ 4096) (hz : s.size ≤ 65536) (w : World) :
    Calls Tryz.prog 24 #[.string s] w (DecPost L s.size w) := by
  have HREAD : Hid (∀ (m : Nat) (x : Int), (Dr.nums L)[m]? = some x → Vi.gb s (Dr.pos L m : Int) 0 = 0 ∧ Vi.gx s (Dr.pos L m : Int) 0 = x ∧ Vi.ga s (Dr.pos L m : Int) 0 = (Dr.pos L (m + 1) : Int)) := Lib.hid (fun m x h => Dr.read hL hf hl hs m x h)
  obtain ⟨g1, g2, g3⟩ := HREAD.out 0 _ (Dr.nums_zero L)
  rw [Dr.pos_zero] at g1 g2 g3
  have HGET : Hid (∀ w, Calls Tryz.prog 61 #[Sc s 0 0] w (ScPost (L.length : Int) s (Dr.pos L 1 : Int) 0 w)) := Lib.hid (fun w => by
    have h := get_any s 0 0 (by omega) w
    rw [show Vi.gx s 0 0 = _ from g2, show Vi.ga s 0 0 = _ from g3, show Vi.gb s 0 0 = _ from g1] at h
    exact h)
  have HLF := Lib.hid (And.intro hL hf)
  have HSZ : Hid ((Dr.enc L).length = s.size) := Lib.hid (by rw [hs, strOfNums_size])
  clear g1 g2 g3 hs hL hf
  have HPA : Hid (∀ M c', En.row M = c' → True) := Lib.hid (fun _ _ _ => trivial)
  obtain ⟨j0, hj, jz0, jz1, jz2⟩ := info_parts ent_info
  have HMK : Hid (∀ W : World, (Instr.makeSlice 35 (.int .u64 (L.length : Int)) (.int .u64 (L.length : Int))).run Tryz.prog W = .ok (.slice (some ⟨W.heap.size, 0, none⟩) L.length L.length) (W.alloc (.cells (ecells (Dr.parts L 0 0)).toArray 43))) := Lib.hid (fun W => by
    have h := run_make (P := Tryz.prog) W 35 43 j0 _ Tryz.underlying35 hj jz0 .u64 .u64 (L.length : Int) (L.length : Int) (by omega) (Int.le_refl _) (by rw [jz2]; omega) (by omega)
    rw [jz1, Int.toNat_natCast, Dr.made] at h
    exact h)
  clear hj jz0 jz1 jz2 HPA
  go_enter Tryz.func24, Tryz.ntmps24
  go_wp2_with fail
  refine (HGET.out _).mono ?_; rintro x w1 ⟨rfl, hb1⟩
  have hmk := HMK.out
  go_wp2_with fail
  clear hmk
  go_loopw [35] (fun cc wr => ∃ c : Nat, c ≤ 4 ∧ cc = .int .i64 c ∧ Hid (wr.heap[w1.heap.size]? = some (.cells #[.string s, .int .i64 (Dr.pos L (1 + c * L.length) : Int), .int .i64 0] 134 (0, 0))) ∧ Hid (wr.heap[w1.heap.size + 1]? = some (.cells (ecells (Dr.parts L c 0)).toArray 43 (0, 0))) ∧ Below w.heap.size w wr) (fun cc _ => 4 - (intOf cc).toNat)
  case atStart => exact ⟨0, by omega, rfl, Lib.hid (by rw [Nat.zero_mul]; exact blk_alloc (heap_alloc_new w1 _) _), Lib.hid (heap_at (by simp)), (hb1.alloc hb1.size _).alloc (by have := hb1.size; simp; omega) _⟩
  case round =>
    obtain ⟨c, hc, rfl, HT, HE, hbl⟩ := hrel
    by_cases hc4 : c < 4
    · obtain ⟨wo, hwo⟩ : ∃ wo : World, wo = wr := ⟨_, rfl⟩
      subst hwo
      have hz := blk_lt HE.out
      have hd4 : decide ((c : Int) < 4) = true := decide_eq_true (by omega)
      go_wp2_with fail
      go_loopw [40] (fun cj wr => ∃ i : Nat, i ≤ L.length ∧ cj = .int .i64 i ∧ Hid (wr.heap[w1.heap.size]? = some (.cells #[.string s, .int .i64 (Dr.pos L (1 + (c * L.length + i)) : Int), .int .i64 0] 134 (0, 0))) ∧ Hid (wr.heap[w1.heap.size + 1]? = some (.cells (ecells (Dr.parts L c i)).toArray 43 (0, 0))) ∧ Hid (wr.heap[wo.heap.size]? = some (.cells (En.vals (Dr.ahd L c i)).toArray 43 (0, 0))) ∧ Below w.heap.size w wr) (fun cj _ => L.length - (intOf cj).toNat)
      case atStart => exact ⟨0, by omega, rfl, Lib.hid (blk_alloc HT.out _), Lib.hid (blk_alloc HE.out _), Lib.hid (heap_alloc_new wo _), hbl.alloc hbl.size _⟩
      case round =>
        obtain ⟨i, hi, rfl, HT2, HE2, HA2, hbl2⟩ := hrel
        by_cases hlt : i < L.length
        · obtain ⟨hL, hf⟩ := HLF.out
          have hrd := HREAD.out _ _ (Dr.nums_at L c i hc4 hlt)
          have hok := Dr.ok_at hL hf c i hlt
          have hfit := Dr.ahd_fit hf c i
          have hsum := Dr.ahd_sum hL hf c i (by omega)
          have hstep := Dr.step_cells hf c i hc4 hlt
          have hpi : i < (Dr.parts L c i).length := by rw [Dr.parts_len]; exact hlt
          have hpi2 : i < (Dr.parts L c (i + 1)).length := by rw [Dr.parts_len]; exact hlt
          have hq0 : ∀ j, j < 4 → (ecells (Dr.parts L c i)).toArray[i * 4 + j]? = (En.vals (Dr.part L c i i))[j]? := fun j h => by rw [List.getElem?_toArray, ecells_get _ i j hpi h, Dr.parts_at]
          have hq1 : ∀ j, j < 4 → (ecells (Dr.parts L c (i + 1))).toArray[i * 4 + j]? = (En.vals (Dr.ahd L c (i + 1)))[j]? := fun j h => by rw [List.getElem?_toArray, ecells_get _ i j hpi2 h, Dr.parts_at, Dr.ahd_succ]
          obtain ⟨x, hx⟩ : ∃ x, x = Dr.at_ L c i := ⟨_, rfl⟩
          obtain ⟨p0, hp0⟩ : ∃ p, p = Dr.pos L (1 + (c * L.length + i)) := ⟨_, rfl⟩
          obtain ⟨p1, hp1⟩ : ∃ p, p = Dr.pos L (1 + (c * L.length + (i + 1))) := ⟨_, rfl⟩
          rw [show 1 + (c * L.length + i) + 1 = 1 + (c * L.length + (i + 1)) by omega, ← hx, ← hp0, ← hp1] at hrd
          rw [← hp0] at HT2
          rw [← hx] at hok hstep
          obtain ⟨⟨ai, ao, al, ar⟩, hah⟩ : ∃ e, e = Dr.ahd L c i := ⟨_, rfl⟩
          rw [← hah] at hok hfit hsum hstep HA2
          obtain ⟨⟨bi, bo, bl, br⟩, hbh⟩ : ∃ e, e = Dr.ahd L c (i + 1) := ⟨_, rfl⟩
          rw [← hbh] at hq1
          have HBH := Lib.hid hbh
          have HP1 := Lib.hid hp1
          have HGET2 : Hid (∀ w, Calls Tryz.prog 61 #[Sc s (p0 : Int) 0] w (ScPost x s (p1 : Int) 0 w)) := Lib.hid (fun w => by
            have h := get_any s (p0 : Int) 0 (by omega) w
            rw [hrd.2.1, hrd.2.2, hrd.1] at h
            exact h)
          have HOK := Lib.hid hok
          have HFIT := Lib.hid (show En.fit ai ao al ar from hfit)
          have HSUM := Lib.hid (show ao + al ≤ 1099511627776 from hsum)
          have HSTEP := Lib.hid hstep
          have HQ0 := Lib.hid hq0
          have HQ1 := Lib.hid hq1
          obtain ⟨⟨c0, c1, c2⟩, _, _, _⟩ := blk_cells3 HT2.out
          have hz2 := blk_lt HE2.out
          have hz3 := blk_lt HA2.out
          clear hL hf hrd hok hfit hsum hstep hq0 hq1 hx hp0 hp1 hah hbh hpi hpi2
          go_wp2_with fail
          refine (HGET2.out _).mono ?_; rintro y w3 ⟨rfl, hb3⟩
          have HT3 := Lib.hid (blk_alloc (blk_keep2 hb3 HT2.out) (.cells #[.string s, .int .i64 (p1 : Int), .int .i64 0] 134))
          have HE3 := Lib.hid (blk_alloc (blk_keep2 hb3 HE2.out) (.cells #[.string s, .int .i64 (p1 : Int), .int .i64 0] 134))
          have HA3 := Lib.hid (blk_alloc (blk_keep2 hb3 HA2.out) (.cells #[.string s, .int .i64 (p1 : Int), .int .i64 0] 134))
          have HS3 := Lib.hid (heap_alloc_new w3 (.cells #[.string s, .int .i64 (p1 : Int), .int .i64 0] 134))
          have hw3 := blk_new1 (bthen hbl2 hb3) (.cells #[.string s, .int .i64 (p1 : Int), .int .i64 0] 134)
          have hsz := hb3.size
          clear hb3 c0 c1 c2
          go_wp2_with fail
          obtain ⟨W, hW⟩ : ∃ W, W = w3.alloc (.cells #[.string s, .int .i64 (p1 : Int), .int .i64 0] 134) := ⟨_, rfl⟩
          rw [← hW] at HT3 HE3 HA3 HS3 hw3 ⊢
          clear hW
          obtain ⟨a0, a1, a2, a3⟩ := blk_cells4 HA3.out
          refine wp_region_held_drew (S := (fun w' => w'.cell? ⟨wo.heap.size, 0, none⟩ = some (.int .u64 ai) ∧ w'.cell? ⟨wo.heap.size, 1, none⟩ = some (.int .u64 ao) ∧ w'.cell? ⟨wo.heap.size, 2, none⟩ = some (.int .u32 al) ∧ w'.cell? ⟨wo.heap.size, 3, none⟩ = some (.int .u32 ar))) (by kernel_rfl) (by (try dsimp only); exact ⟨a0, a1, a2, a3⟩) (fun hHeld => ?_)
          simp only [List.size_toArray, List.length_cons, List.length_nil, Nat.zero_add, Nat.reduceAdd]
          refine held_take (i := 0) (v := ?_) rfl (by kernel_rfl) (by kernel_rfl) (by kernel_rfl) (fun _ _ _ h => h) (by rfl) ?_ (by assumption) ?_
          rotate_left
          · intro w hSw
            (try dsimp only at hSw)
            go_simp
            try with_reducible rfl
          try simp only [Act.put, List.setIfInBounds_toArray, List.set_cons_zero, List.set_cons_succ]
          refine held_take (i := 1) (v := ?_) rfl (by kernel_rfl) (by kernel_rfl) (by kernel_rfl) (fun _ _ _ h => h) (by rfl) ?_ (by assumption) ?_
          rotate_left
          · intro w hSw
            (try dsimp only at hSw)
            go_simp
            try with_reducible rfl
          try simp only [Act.put, List.setIfInBounds_toArray, List.set_cons_zero, List.set_cons_succ]
          refine held_take (i := 2) (v := ?_) rfl (by kernel_rfl) (by kernel_rfl) (by kernel_rfl) (fun _ _ _ h => h) (by rfl) ?_ (by assumption) ?_
          rotate_left
          · intro w hSw
            (try dsimp only at hSw)
            go_simp
            try with_reducible rfl
          try simp only [Act.put, List.setIfInBounds_toArray, List.set_cons_zero, List.set_cons_succ]
          refine held_take (i := 3) (v := ?_) rfl (by kernel_rfl) (by kernel_rfl) (by kernel_rfl) (fun _ _ _ h => h) (by rfl) ?_ (by assumption) ?_
          rotate_left
          · intro w hSw
            (try dsimp only at hSw)
            go_simp
            try with_reducible rfl
          try simp only [Act.put, List.setIfInBounds_toArray, List.set_cons_zero, List.set_cons_succ]
          refine held_take (i := 4) (v := ?_) rfl (by kernel_rfl) (by kernel_rfl) (by kernel_rfl) (fun _ _ _ h => h) (by rfl) ?_ (by assumption) ?_
          rotate_left
          · intro w hSw
            (try dsimp only at hSw)
            go_simp
            try with_reducible rfl
          try simp only [Act.put, List.setIfInBounds_toArray, List.set_cons_zero, List.set_cons_succ]
          refine held_take (i := 5) (v := ?_) rfl (by kernel_rfl) (by kernel_rfl) (by kernel_rfl) (fun _ _ _ h => h) (by rfl) ?_ (by assumption) ?_
          rotate_left
          · intro w hSw
            (try dsimp only at hSw)
            go_simp
            try with_reducible rfl
          try simp only [Act.put, List.setIfInBounds_toArray, List.set_cons_zero, List.set_cons_succ]
          refine held_take (i := 6) (v := ?_) rfl (by kernel_rfl) (by kernel_rfl) (by kernel_rfl) (fun _ _ _ h => h) (by rfl) ?_ (by assumption) ?_
          rotate_left
          · intro w hSw
            (try dsimp only at hSw)
            go_simp
            try with_reducible rfl
          try simp only [Act.put, List.setIfInBounds_toArray, List.set_cons_zero, List.set_cons_succ]
          refine held_call (i := 7) (by kernel_rfl) rfl (fun K hK => ?_)
          go_simp
          refine (set_any i (w1.heap.size + 1) (i * 4) ai ao al ar x _ _ _ _ _ _ c hc4 HFIT.out (by exact HE3.out) (HQ0.out 0 (by omega)) (HQ0.out 1 (by omega)) (HQ0.out 2 (by omega)) (HQ0.out 3 (by omega)) (by omega) HSUM.out HOK.out).mono ?_
          rintro y w4 ⟨rfl, hg4, he4⟩
          rw [List.setIfInBounds_toArray, HSTEP.out] at he4
          have HE4 := Lib.hid he4
          have HT4 := Lib.hid (gr_keep hg4 HT3.out (by omega))
          have HA4 := Lib.hid (gr_keep hg4 HA3.out (by omega))
          have HS4 := Lib.hid (gr_keep hg4 HS3.out (by omega))
          have hw4 := (Below.drew hw3).grown hg4 (Below.drew hw3).size (fun k e => by cases e; have := hb1.size; omega)
          clear a0 a1 a2 a3 hg4 he4
          obtain ⟨a0, a1, a2, a3⟩ := blk_cells4 HA4.out
          refine hK.out _ _ (by (try dsimp only); exact ⟨a0, a1, a2, a3⟩) (fun hHeld => ?_)
          clear hK K
          try simp only [Act.put, List.setIfInBounds_toArray, List.set_cons_zero, List.set_cons_succ]
          refine held_take (i := 8) (v := ?_) rfl (by kernel_rfl) (by kernel_rfl) (by kernel_rfl) (fun _ _ _ h => h) (by rfl) ?_ (by assumption) ?_
          rotate_left
          · intro w hSw
            (try dsimp only at hSw)
            go_simp
            try with_reducible rfl
          try simp only [Act.put, List.setIfInBounds_toArray, List.set_cons_zero, List.set_cons_succ]
          refine wpAnyH_done (by kernel_rfl) ?_ _
          have b0 : w4.cell? ⟨w1.heap.size + 1, i * 4, none⟩ = some (.int .u64 bi) := (cell_of_row w4 _ (i * 4) _ _ _ HE4.out).trans (HQ1.out 0 (by omega))
          have b1 : w4.cell? ⟨w1.heap.size + 1, i * 4 + 1, none⟩ = some (.int .u64 bo) := (cell_of_row w4 _ (i * 4 + 1) _ _ _ HE4.out).trans (HQ1.out 1 (by omega))
          have b2 : w4.cell? ⟨w1.heap.size + 1, i * 4 + 2, none⟩ = some (.int .u32 bl) := (cell_of_row w4 _ (i * 4 + 2) _ _ _ HE4.out).trans (HQ1.out 2 (by omega))
          have b3 : w4.cell? ⟨w1.heap.size + 1, i * 4 + 3, none⟩ = some (.int .u32 br) := (cell_of_row w4 _ (i * 4 + 3) _ _ _ HE4.out).trans (HQ1.out 3 (by omega))
          obtain ⟨⟨s0, s1, s2⟩, _, _, _⟩ := blk_cells3 HS4.out
          obtain ⟨⟨t0, t1, t2⟩, u0, u1, u2'⟩ := blk_cells3 HT4.out
          have f0 : w4.frozen? ⟨wo.heap.size, 0, none⟩ = false := by simp [World.frozen?, HA4.out]
          have f1 : w4.frozen? ⟨wo.heap.size, 1, none⟩ = false := by simp [World.frozen?, HA4.out]
          have f2 : w4.frozen? ⟨wo.heap.size, 2, none⟩ = false := by simp [World.frozen?, HA4.out]
          have f3 : w4.frozen? ⟨wo.heap.size, 3, none⟩ = false := by simp [World.frozen?, HA4.out]
          go_wp2_with fail
          go_region
          all_goals
            go_wp2_with fail
            have n1 : w1.heap.size ≠ wo.heap.size := by omega
            have n2 : w1.heap.size + 1 ≠ wo.heap.size := by omega
            have n3 : w1.heap.size + 1 ≠ w1.heap.size := by omega
            have n4 : w.heap.size ≤ wo.heap.size := hbl.size
            have n5 : w.heap.size ≤ w1.heap.size := hb1.size
            have k1 : Hid ((((((((w4.setCell ⟨wo.heap.size, 0, none⟩ (.int .u64 bi)).setCell ⟨wo.heap.size, 1, none⟩ (.int .u64 bo)).setCell ⟨wo.heap.size, 2, none⟩ (.int .u32 bl)).setCell ⟨wo.heap.size, 3, none⟩ (.int .u32 br)).setCell ⟨w1.heap.size, 0, none⟩ (.string s)).setCell ⟨w1.heap.size, 1, none⟩ (.int .i64 (p1 : Int))).setCell ⟨w1.heap.size, 2, none⟩ (.int .i64 0)).heap[w1.heap.size]? = some (.cells #[.string s, .int .i64 (p1 : Int), .int .i64 0] 134 (0, 0))) := Lib.hid ((set_blk (set_blk (set_blk (set_far (set_far (set_far (set_far (HT4.out) n1) n1) n1) n1)))).trans (by kernel_rfl))
            have k2 : Hid ((((((((w4.setCell ⟨wo.heap.size, 0, none⟩ (.int .u64 bi)).setCell ⟨wo.heap.size, 1, none⟩ (.int .u64 bo)).setCell ⟨wo.heap.size, 2, none⟩ (.int .u32 bl)).setCell ⟨wo.heap.size, 3, none⟩ (.int .u32 br)).setCell ⟨w1.heap.size, 0, none⟩ (.string s)).setCell ⟨w1.heap.size, 1, none⟩ (.int .i64 (p1 : Int))).setCell ⟨w1.heap.size, 2, none⟩ (.int .i64 0)).heap[w1.heap.size + 1]? = some (.cells (ecells (Dr.parts L c (i + 1))).toArray 43 (0, 0))) := Lib.hid (set_far (set_far (set_far (set_far (set_far (set_far (set_far HE4.out n2) n2) n2) n2) n3) n3) n3)
            have k3 : Hid ((((((((w4.setCell ⟨wo.heap.size, 0, none⟩ (.int .u64 bi)).setCell ⟨wo.heap.size, 1, none⟩ (.int .u64 bo)).setCell ⟨wo.heap.size, 2, none⟩ (.int .u32 bl)).setCell ⟨wo.heap.size, 3, none⟩ (.int .u32 br)).setCell ⟨w1.heap.size, 0, none⟩ (.string s)).setCell ⟨w1.heap.size, 1, none⟩ (.int .i64 (p1 : Int))).setCell ⟨w1.heap.size, 2, none⟩ (.int .i64 0)).heap[wo.heap.size]? = some (.cells (En.vals (bi, bo, bl, br)).toArray 43 (0, 0))) := Lib.hid ((set_far (set_far (set_far (set_blk (set_blk (set_blk (set_blk (HA4.out))))) n1.symm) n1.symm) n1.symm).trans (by kernel_rfl))
            have k4 : Hid (Below w.heap.size w (((((((w4.setCell ⟨wo.heap.size, 0, none⟩ (.int .u64 bi)).setCell ⟨wo.heap.size, 1, none⟩ (.int .u64 bo)).setCell ⟨wo.heap.size, 2, none⟩ (.int .u32 bl)).setCell ⟨wo.heap.size, 3, none⟩ (.int .u32 br)).setCell ⟨w1.heap.size, 0, none⟩ (.string s)).setCell ⟨w1.heap.size, 1, none⟩ (.int .i64 (p1 : Int))).setCell ⟨w1.heap.size, 2, none⟩ (.int .i64 0))) := Lib.hid ((below_set (below_set (below_set (below_set (below_set (below_set (below_set hw4 n4 _) n4 _) n4 _) n4 _) n5 _) n5 _) n5 _))
            have k5 : Hid ((((((((w4.setCell ⟨wo.heap.size, 0, none⟩ (.int .u64 bi)).setCell ⟨wo.heap.size, 1, none⟩ (.int .u64 bo)).setCell ⟨wo.heap.size, 2, none⟩ (.int .u32 bl)).setCell ⟨wo.heap.size, 3, none⟩ (.int .u32 br)).setCell ⟨w1.heap.size, 0, none⟩ (.string s)).setCell ⟨w1.heap.size, 1, none⟩ (.int .i64 (p1 : Int))).setCell ⟨w1.heap.size, 2, none⟩ (.int .i64 0)).heap[w1.heap.size]? = some (.cells #[.string s, .int .i64 (Dr.pos L (1 + (c * L.length + (i + 1))) : Int), .int .i64 0] 134 (0, 0))) := Lib.hid (by rw [← HP1.out]; exact k1.out)
            have k6 : Hid ((((((((w4.setCell ⟨wo.heap.size, 0, none⟩ (.int .u64 bi)).setCell ⟨wo.heap.size, 1, none⟩ (.int .u64 bo)).setCell ⟨wo.heap.size, 2, none⟩ (.int .u32 bl)).setCell ⟨wo.heap.size, 3, none⟩ (.int .u32 br)).setCell ⟨w1.heap.size, 0, none⟩ (.string s)).setCell ⟨w1.heap.size, 1, none⟩ (.int .i64 (p1 : Int))).setCell ⟨w1.heap.size, 2, none⟩ (.int .i64 0)).heap[wo.heap.size]? = some (.cells (En.vals (Dr.ahd L c (i + 1))).toArray 43 (0, 0))) := Lib.hid (by rw [← HBH.out]; exact k3.out)
            exact ⟨⟨i + 1, by omega, by go_num, hid_drew k5, hid_drew k2, hid_drew k6, Below.drew k4.out⟩, by simp [intOf]; omega⟩
        · obtain rfl : i = L.length := by omega
          have hT3 : Hid (wr.heap[w1.heap.size]? = some (.cells #[.string s, .int .i64 (Dr.pos L (1 + (c + 1) * L.length) : Int), .int .i64 0] 134 (0, 0))) := Lib.hid (by rw [show 1 + (c + 1) * L.length = 1 + (c * L.length + L.length) by rw [Nat.add_mul, Nat.one_mul]]; exact HT2.out)
          have hE3 : Hid (wr.heap[w1.heap.size + 1]? = some (.cells (ecells (Dr.parts L (c + 1) 0)).toArray 43 (0, 0))) := Lib.hid (by rw [Dr.parts_next]; exact HE2.out)
          go_wp2_with fail
          exact ⟨⟨c + 1, by omega, by go_num, hT3, hE3, hbl2⟩, by simp [intOf]; omega⟩
    · obtain rfl : c = 4 := by omega
      obtain ⟨hL, hf⟩ := HLF.out
      have hE4 := HE.out
      rw [Dr.parts_all] at hE4
      have hT4 := HT.out
      have hpe : Dr.pos L (1 + 4 * L.length) = s.size := by
        rw [Dr.pos_end L _ (by rw [Dr.nums_len]; omega), HSZ.out]
      rw [hpe] at hT4
      obtain ⟨⟨c0, c1, c2⟩, _, _, _⟩ := blk_cells3 hT4
      have HROW := Lib.hid (En.fine_row hL hf hl)
      have HRD : Hid (Reads wr wr.heap.size 4 (some ⟨w1.heap.size + 1, 0, none⟩) L.length (ecells L)) := Lib.hid ⟨ecells_len L, fun _ => ⟨_, rfl, blk_lt hE4, blkn hE4⟩⟩
      have HOWN : Hid (wr.ownsRow w.heap.size 43 4 (.slice (some ⟨w1.heap.size + 1, 0, none⟩) L.length L.length) L.length (ecells L)) := Lib.hid ⟨ecells_len L, Or.inr ⟨w1.heap.size + 1, L.length, _, rfl, by have := hb1.size; omega, hE4, Nat.le_refl _, by simp [maxLen]; omega, by rw [List.size_toArray, ecells_len], by rw [List.take_of_length_le (by rw [Array.length_toList, List.size_toArray, ecells_len]; exact Nat.le_refl _)]⟩⟩
      have HF := Lib.hid hf
      clear hL hf hE4 hT4 hpe
      go_wp2_with fail
      refine (row_any _ L.length L.length L wr.heap.size _ HRD.out rfl HF.out (Nat.le_refl _) (by omega)).mono ?_; rintro y w5 ⟨he, hb5⟩
      rw [HROW.out] at he
      subst he
      have HO5 := Lib.hid (ownsRow_keep HOWN.out hb5)
      have hw5 := bthen hbl hb5
      clear hb5
      go_wp2_with fail
      go_ret3
      exact ⟨_, rfl, HO5.out, hw5⟩
end Go.Proofs.YtlfahmdndlmhpaaGreatDoor
