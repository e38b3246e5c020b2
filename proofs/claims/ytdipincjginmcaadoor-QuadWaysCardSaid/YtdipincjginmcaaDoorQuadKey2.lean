/- The walk of the program's Key. -/
import Derived.Test.YtdipincjginmcaaDoorQuadKey
import Derived.Test.YtdipincjginmcaaDoorHeld
import Derived.Laws.MakeOwn
import Derived.Lib.LazyBuf
import Derived.Laws.BytesArg
import Derived.Lib.SmallJoins
import Derived.Lib.SlBytesConst
namespace Go.Proofs.YtdipincjginmcaaDoor
open Go.RowKit

theorem u8_info : (Tryd.prog.info? 5).map (fun i => (i.zero, i.size, i.bytes)) = some (some (.int .u8 0), 1, 1) := by kernel_rfl
def OnlyNormal (Q : Exit → Act → World → Prop) : Exit → Act → World → Prop
  | .normal, a, w => Q .normal a w
  | _, _, _ => False
theorem wp_only {P : Program} {c : Code} {Q : Exit → Act → World → Prop} {a : Act} {w : World} (h : c.wp P (OnlyNormal Q) a w) : c.wp P Q a w :=
  wp_mono h fun e _ _ hq => by cases e <;> first | exact hq | exact hq.elim
theorem only_in {Q : Exit → Act → World → Prop} {a : Act} {w : World} (h : Q .normal a w) : OnlyNormal Q .normal a w := h
def KeyRun (w : World) (g n k : Nat) (L : List Nat) : Prop := ∃ cur, w.heap[g]? = some (.cells cur 5 (0, 0)) ∧ cur.size = n ∧ ∀ j, j < k → ∃ d, L[j]? = some d ∧ cur[j]? = some (.int .u8 ((48 + d : Nat) : Int))
/-- the cell of a number in a list of numbers -/
theorem Reads.num {w : World} {B n : Nat} {A : Option Addr} {k : IntKind} {l : List Int} (h : Reads w B 1 A n (l.map (Value.int k))) (hn : n = l.length) (i : Nat) (hi : i < l.length) :
    ∃ g off, A = some ⟨g, off, none⟩ ∧ g < B ∧ w.cell? ⟨g, off + i, none⟩ = some (.int k (l[i]'hi)) := by
  obtain ⟨ad0, u0, hA0, _, _, hc0⟩ := h.at_ (k := 0) (by omega)
  obtain ⟨ad, u, hA, hb, hx, hc⟩ := h.at_ (k := i) (by omega)
  rw [hA] at hA0
  injection hA0 with hA0
  subst hA0
  subst hA
  have hs := World.cell?_spot hc0
  obtain ⟨g, off, s⟩ := ad
  have hs' : s = none := by simpa [Addr.add] using hs
  subst hs'
  have ha : (⟨g, off, none⟩ : Addr).add i = ⟨g, off + i, none⟩ := by
    unfold Addr.add
    by_cases hm : i = 0
    · subst hm; rfl
    · rw [if_neg hm]
  rw [ha] at hc
  rw [List.getElem?_map, List.getElem?_eq_getElem hi] at hx
  simp at hx
  subst hx
  exact ⟨g, off, rfl, hb, hc⟩

/-- 'string(b)' of a row of bytes -/
theorem row8_str {w : World} {B n c : Nat} {A : Option Addr} {l : List Int} (h : Reads w B 1 A n (l.map (Value.int .u8))) (hn : n = l.length) : (convert 59 9 (.slice A n c)).run Tryd.prog w = .ok (.string (strOfNums l)) w := by
  subst hn
  rcases Nat.eq_zero_or_pos l.length with h0 | h0
  · have hl : l = [] := List.eq_nil_of_length_eq_zero h0
    subst hl
    cases A with
    | none => exact run_convert_bytes_nil w 59 5 Tryd.underlying59 Tryd.underlying5 0 c 9 Tryd.underlying9
    | some ad =>
      show (convert 59 9 (.slice (some ad) 0 c)).run Tryd.prog w = _
      rw [run_convert_bytes_string w 59 9 5 (some ad) 0 c Tryd.underlying59 Tryd.underlying5 Tryd.underlying9]
      exact run_bytesToString w ad 0 c [] (by simpa using run_loadCells_list (P := Tryd.prog) w ad [] (fun j v hj => by simp at hj))
  · obtain ⟨g, off, rfl, _, _⟩ := h.num rfl 0 h0
    refine run_convert_bytes_arg w 59 5 Tryd.underlying59 Tryd.underlying5 g off l.length c l rfl (fun i hi => ?_) 9 Tryd.underlying9
    obtain ⟨g', off', e, _, hc⟩ := h.num rfl i hi
    injection e with e
    injection e with e1 e2 _
    subst e1 e2
    rw [hc]
    simp [List.getD, List.getElem?_eq_getElem hi]

theorem KeyRun.set {w : World} {g n k d : Nat} {L : List Nat} {v : Value} (h : KeyRun w g n k L) (hk : k < n) (hL : L[k]? = some d) (hv : v = .int .u8 ((48 + d : Nat) : Int)) : KeyRun (w.setCell ⟨g, k, none⟩ v) g n (k + 1) L := by
  obtain ⟨cur, hc, hs, hd⟩ := h
  refine ⟨cur.setIfInBounds k v, by simp [World.setCell, Array.getElem?_modify, hc], by simpa using hs, fun j hj => ?_⟩
  by_cases e : j = k
  · subst e
    exact ⟨d, hL, by rw [Array.getElem?_setIfInBounds_self_of_lt (by omega), hv]⟩
  · obtain ⟨d', h1, h2⟩ := hd j (by omega)
    exact ⟨d', h1, by rw [Array.getElem?_setIfInBounds_ne (by omega)]; exact h2⟩
theorem KeyRun.reads {w : World} {g n : Nat} {L : List Nat} (h : KeyRun w g n n L) (hL : L.length = n) : Reads w (g + 1) 1 (some ⟨g, 0, none⟩) n ((L.map (fun d => ((48 + d : Nat) : Int))).map (Value.int .u8)) := by
  obtain ⟨cur, hc, hs, hd⟩ := h
  refine ⟨by simp [hL], fun _ => ⟨_, rfl, Nat.lt_succ_self _, fun j u hu => ?_⟩⟩
  have e : (⟨g, 0, none⟩ : Addr).add j = ⟨g, j, none⟩ := by unfold Addr.add; split <;> simp_all
  have hj : j < n := by have := (List.getElem?_eq_some_iff.1 hu).1; simpa [hL] using this
  obtain ⟨d, h1, h2⟩ := hd j hj
  rw [e, cell_of_row w g j cur _ (0, 0) hc, h2]
  rw [List.getElem?_map, List.getElem?_map, h1] at hu
  exact hu
theorem Qs.kt_nums {l : List Nat} (h : ∀ d ∈ l, d < 4) : strOfNums (l.map (fun d => ((48 + d : Nat) : Int))) = Qs.kt l := by
  have e : l.map (fun d => ((48 + d : Nat) : Int)) = (l.map (fun d => UInt8.ofNat (48 + d))).map (fun b => (b.toNat : Int)) := by
    rw [List.map_map]
    refine List.map_congr_left fun d hd => ?_
    simp only [Function.comp]
    rw [Qs.byte_dig (h d hd)]
  rw [e, Lib.Lz.strOfNums_map]
  rfl
theorem blk_far {w : World} {g g' i : Nat} {o : Obj} {u : Value} (h : w.heap[g]? = some o) (hn : g ≠ g') : (w.setCell ⟨g', i, none⟩ u).heap[g]? = some o :=
  (Below.heap_setCell w ⟨g', i, none⟩ u g hn).trans h
theorem made_size (n : Nat) : (madeCells #[Value.int .u8 0] (n * 1)).size = n := by simp [madeCells]

theorem i64_ors : bits .or .i64 0 0 = 0 ∧ bits .or .i64 1 0 = 1 ∧ bits .or .i64 0 2 = 2 ∧ bits .or .i64 1 2 = 3 := by decide +kernel
theorem i64_and1 (n : Int) : bits .and .i64 n 1 = n % 2 := by
  have h1 : (BitVec.ofInt 64 1).toNat = 2 ^ 1 - 1 := by decide
  have key : (BitVec.ofInt 64 n &&& BitVec.ofInt 64 1).toNat = (n % ((2 ^ 64 : Nat) : Int)).toNat % 2 ^ 1 := by
    rw [BitVec.toNat_and, BitVec.toNat_ofInt, h1, Nat.and_two_pow_sub_one_eq_mod]
  show IntKind.i64.wrap ((BitVec.ofInt 64 n &&& BitVec.ofInt 64 1).toNat : Nat) = n % 2
  rw [key, IntKind.wrap_i64]
  omega
set_option maxRecDepth 100000 in
set_option maxHeartbeats 4000000 in
theorem key_ok (n x y : Nat) (w : World) (hn : n ≤ 26) (hx : x < 2 ^ n) (hy : y < 2 ^ n) :
    Calls Tryd.prog 9 #[.agg #[.int .i64 (n : Int), .int .i64 (x : Int), .int .i64 (y : Int)]] w fun e w' => e = .returned (.tuple #[.string (Qs.kt (Qk.kd n x y)), .int .i64 0]) ∧ Below w.heap.size w w' := by
  have HPE := Lib.hid (Cv.pe_ok (Cv.ok_mk n x y hn hx hy))
  obtain ⟨i0, hi, iz0, iz1, iz2⟩ := info_parts u8_info
  have hmk : ∀ w, (Instr.makeSlice 59 (.int .i64 (n : Int)) (.int .i64 (n : Int))).run Tryd.prog w = .ok (.slice (some ⟨w.heap.size, 0, none⟩) n n) (w.alloc (.cells (madeCells #[Value.int .u8 0] (n * 1)) 5)) := fun w => by
    have h := run_makeSlice (P := Tryd.prog) w 59 5 i0 _ Tryd.underlying59 hi iz0 .i64 .i64 (n : Int) (n : Int) (by omega) (by omega) (by rw [iz1]; simp; omega) (by rw [iz2]; omega) (by omega)
    rw [iz1, Int.toNat_natCast] at h
    exact h
  have hms := made_size n
  obtain ⟨C, hC⟩ : ∃ C, C = madeCells #[Value.int .u8 0] (n * 1) := ⟨_, rfl⟩
  rw [← hC] at hmk hms
  have hpw := Nat.pow_le_pow_right (n := 2) (by omega) hn
  have hx1 : (x : Int) < 134217728 := by simp at hpw; omega
  have hy1 : (y : Int) < 134217728 := by simp at hpw; omega
  have hx0 : (0 : Int) ≤ (x : Int) := by omega
  have hy0 : (0 : Int) ≤ (y : Int) := by omega
  have hn1 : (n : Int) ≤ 26 := by omega
  have HMS := Lib.hid hms
  clear hpw hx hy hC hms
  go_enter Tryd.func9, Tryd.ntmps9
  go_wp2_with fail
  refine (id_any _ _ _ _).mono ?_; rintro e w1 ⟨he, hb⟩
  rw [HPE.out] at he
  subst he
  have HB := Lib.hid (blk_one hb).1
  obtain ⟨c0, c1, c2⟩ := (blk_cells3 HB.out).1
  have hw := (blk_one hb).2.2
  have hz2 := (blk_one hb).2.1
  clear hb
  go_wp2_with fail
  clear c0 c1 c2 hmk
  replace HB := Lib.hid (blk_alloc HB.out (.cells C 5))
  have hz1 := hw.size
  go_loopw [22] (fun ci wr => ∃ k : Nat, k ≤ n ∧ ci = .int .i64 k ∧ Hid (KeyRun wr w1.heap.size n k (Qk.kd n x y)) ∧ Hid (wr.heap[w.heap.size]? = some (.cells #[.int .i64 (n : Int), .int .i64 (x : Int), .int .i64 (y : Int)] 30 (0, 0))) ∧ Below w.heap.size w wr) (fun ci _ => n - (intOf ci).toNat)
  case atStart => exact ⟨0, by omega, rfl, Lib.hid ⟨C, heap_alloc_new w1 _, HMS.out, fun j hj => by omega⟩, HB, hw.alloc hz1 _⟩
  case round =>
    clear HB hw
    obtain ⟨k, hk, rfl, HR, HB, hw⟩ := hrel
    by_cases hlt : k < n
    · have hp0 : (k : Int) + 1 ≤ (n : Int) := by omega
      have hk0 : (0 : Int) ≤ (k : Int) := by omega
      have hkn : (k : Int) < (n : Int) := by omega
      obtain ⟨c0, c1, c2⟩ := (blk_cells3 HB.out).1
      obtain ⟨p, hp, hpl⟩ : ∃ p : Nat, p = n - 1 - k ∧ p ≤ 25 := ⟨n - 1 - k, rfl, by omega⟩
      have hpe : (n : Int) - 1 - (k : Int) = (p : Int) := by omega
      have hgt := Qk.kd_get n x y k hlt
      rw [← hp] at hgt
      have HGT := Lib.hid hgt
      obtain ⟨o0, o1, o2, o3⟩ := i64_ors
      have wr0 : IntKind.i64.wrap 0 = 0 := by decide
      have wr2 : IntKind.i64.wrap 2 = 2 := by decide
      have hbx := i64_and1 ((x : Int) / 2 ^ p)
      have hby := i64_and1 ((y : Int) / 2 ^ p)
      have hcx : ((x : Int) / 2 ^ p % 2 = 0 ∧ x / 2 ^ p % 2 = 0) ∨ ((x : Int) / 2 ^ p % 2 = 1 ∧ x / 2 ^ p % 2 = 1) := by
        have e : (x : Int) / 2 ^ p = ((x / 2 ^ p : Nat) : Int) := by simp
        rw [e]; omega
      have hcy : ((y : Int) / 2 ^ p % 2 = 0 ∧ y / 2 ^ p % 2 = 0) ∨ ((y : Int) / 2 ^ p % 2 = 1 ∧ y / 2 ^ p % 2 = 1) := by
        have e : (y : Int) / 2 ^ p = ((y / 2 ^ p : Nat) : Int) := by simp
        rw [e]; omega
      obtain ⟨cur, hcur, hcs, hcd⟩ := HR.out
      have hv : ∃ v, cur[k]? = some v := ⟨_, Array.getElem?_eq_getElem (by omega)⟩
      obtain ⟨v, hv⟩ := hv
      have hkc : wr.drew.cell? ⟨w1.heap.size, k, none⟩ = some v := (cell_of_row wr w1.heap.size k cur _ (0, 0) hcur).trans hv
      have hkf : wr.drew.frozen? ⟨w1.heap.size, k, none⟩ = false := by show wr.frozen? ⟨w1.heap.size, k, none⟩ = false; simp [World.frozen?, hcur]
      have HCU := Lib.hid hcur
      have HCS := Lib.hid hcs
      have HCD := Lib.hid hcd
      have HHKC := Lib.hid hkc
      have HHKF := Lib.hid hkf
      clear hp hgt hcur hcs hcd hkc hkf hv
      rcases hcx with ⟨ex, hx2⟩ | ⟨ex, hx2⟩ <;> rcases hcy with ⟨ey, hy2⟩ | ⟨ey, hy2⟩
      all_goals
        rw [ex] at hbx
        rw [ey] at hby
        have HX2 := Lib.hid hx2
        have HY2 := Lib.hid hy2
        clear ex ey hx2 hy2
        go_wp2_with fail
        clear c0 c1 c2
        refine wp_only ?_
        refine wp_region_held_drew (S := (fun w' => w'.cell? ⟨w.heap.size, 0, none⟩ = some (.int .i64 (n : Int)) ∧ w'.cell? ⟨w.heap.size, 1, none⟩ = some (.int .i64 (x : Int)) ∧ w'.cell? ⟨w.heap.size, 2, none⟩ = some (.int .i64 (y : Int)))) (by kernel_rfl) (by (try dsimp only); exact (blk_cells3 HB.out).1) (fun hHeld => ?_)
        simp only [List.size_toArray, List.length_cons, List.length_nil, Nat.zero_add, Nat.reduceAdd]
        refine held_take (i := 0) (v := ?_) rfl (by kernel_rfl) (by kernel_rfl) (by kernel_rfl) (fun _ _ _ h => h) (by rfl) ?_ (by assumption) ?_
        rotate_left
        · intro w hSw
          (try dsimp only at hSw)
          go_simp
          try with_reducible rfl
        try simp only [Act.put, List.setIfInBounds_toArray, List.set_cons_zero, List.set_cons_succ]
        refine held_take (i := 1) (v := ?_) rfl (by kernel_rfl) (by kernel_rfl) (by kernel_rfl) (fun _ _ _ h => h) (by rfl) ?_ (by assumption) ?_
        rotate_left
        · intro w hSw
          (try dsimp only at hSw)
          go_simp
          try with_reducible rfl
        try simp only [Act.put, List.setIfInBounds_toArray, List.set_cons_zero, List.set_cons_succ]
        refine held_take (i := 2) (v := ?_) rfl (by kernel_rfl) (by kernel_rfl) (by kernel_rfl) (fun _ _ _ h => h) (by rfl) ?_ (by assumption) ?_
        rotate_left
        · intro w hSw
          (try dsimp only at hSw)
          go_simp
          try with_reducible rfl
        try simp only [Act.put, List.setIfInBounds_toArray, List.set_cons_zero, List.set_cons_succ]
        refine held_take (i := 3) (v := ?_) rfl (by kernel_rfl) (by kernel_rfl) (by kernel_rfl) (fun _ _ _ h => h) (by rfl) ?_ (by assumption) ?_
        rotate_left
        · intro w hSw
          (try dsimp only at hSw)
          go_simp
          try with_reducible rfl
        try simp only [Act.put, List.setIfInBounds_toArray, List.set_cons_zero, List.set_cons_succ]
        refine held_take (i := 4) (v := ?_) rfl (by kernel_rfl) (by kernel_rfl) (by kernel_rfl) (fun _ _ _ h => h) (by rfl) ?_ (by assumption) ?_
        rotate_left
        · intro w hSw
          (try dsimp only at hSw)
          go_simp
          try with_reducible rfl
        try simp only [Act.put, List.setIfInBounds_toArray, List.set_cons_zero, List.set_cons_succ]
        refine held_take (i := 5) (v := ?_) rfl (by kernel_rfl) (by kernel_rfl) (by kernel_rfl) (fun _ _ _ h => h) (by rfl) ?_ (by assumption) ?_
        rotate_left
        · intro w hSw
          (try dsimp only at hSw)
          go_simp
          try with_reducible rfl
        try simp only [Act.put, List.setIfInBounds_toArray, List.set_cons_zero, List.set_cons_succ]
        refine held_take (i := 6) (v := ?_) rfl (by kernel_rfl) (by kernel_rfl) (by kernel_rfl) (fun _ _ _ h => h) (by rfl) ?_ (by assumption) ?_
        rotate_left
        · intro w hSw
          (try dsimp only at hSw)
          go_simp
          try with_reducible rfl
        try simp only [Act.put, List.setIfInBounds_toArray, List.set_cons_zero, List.set_cons_succ]
        refine held_take (i := 7) (v := ?_) rfl (by kernel_rfl) (by kernel_rfl) (by kernel_rfl) (fun _ _ _ h => h) (by rfl) ?_ (by assumption) ?_
        rotate_left
        · intro w hSw
          (try dsimp only at hSw)
          go_simp
          try with_reducible rfl
        try simp only [Act.put, List.setIfInBounds_toArray, List.set_cons_zero, List.set_cons_succ]
        refine held_take (i := 8) (v := ?_) rfl (by kernel_rfl) (by kernel_rfl) (by kernel_rfl) (fun _ _ _ h => h) (by rfl) ?_ (by assumption) ?_
        rotate_left
        · intro w hSw
          (try dsimp only at hSw)
          go_simp
          try with_reducible rfl
        try simp only [Act.put, List.setIfInBounds_toArray, List.set_cons_zero, List.set_cons_succ]
        refine held_take (i := 9) (v := ?_) rfl (by kernel_rfl) (by kernel_rfl) (by kernel_rfl) (fun _ _ _ h => h) (by rfl) ?_ (by assumption) ?_
        rotate_left
        · intro w hSw
          (try dsimp only at hSw)
          go_simp
          try with_reducible rfl
        try simp only [Act.put, List.setIfInBounds_toArray, List.set_cons_zero, List.set_cons_succ]
        refine held_take (i := 10) (v := ?_) rfl (by kernel_rfl) (by kernel_rfl) (by kernel_rfl) (fun _ _ _ h => h) (by rfl) ?_ (by assumption) ?_
        rotate_left
        · intro w hSw
          (try dsimp only at hSw)
          go_simp
          try with_reducible rfl
        try simp only [Act.put, List.setIfInBounds_toArray, List.set_cons_zero, List.set_cons_succ]
        refine held_take (i := 11) (v := ?_) rfl (by kernel_rfl) (by kernel_rfl) (by kernel_rfl) (fun _ _ _ h => h) (by rfl) ?_ (by assumption) ?_
        rotate_left
        · intro w hSw
          (try dsimp only at hSw)
          go_simp
          try with_reducible rfl
        try simp only [Act.put, List.setIfInBounds_toArray, List.set_cons_zero, List.set_cons_succ]
        refine held_take (i := 12) (v := ?_) rfl (by kernel_rfl) (by kernel_rfl) (by kernel_rfl) (fun _ _ _ h => h) (by rfl) ?_ (by assumption) ?_
        rotate_left
        · intro w hSw
          (try dsimp only at hSw)
          go_simp
          try with_reducible rfl
        try simp only [Act.put, List.setIfInBounds_toArray, List.set_cons_zero, List.set_cons_succ]
        refine held_take (i := 13) (v := ?_) rfl (by kernel_rfl) (by kernel_rfl) (by kernel_rfl) (fun _ _ _ h => h) (by rfl) ?_ (by assumption) ?_
        rotate_left
        · intro w hSw
          (try dsimp only at hSw)
          go_simp
          try with_reducible rfl
        try simp only [Act.put, List.setIfInBounds_toArray, List.set_cons_zero, List.set_cons_succ]
        refine held_take (i := 14) (v := ?_) rfl (by kernel_rfl) (by kernel_rfl) (by kernel_rfl) (fun _ _ _ h => h) (by rfl) ?_ (by assumption) ?_
        rotate_left
        · intro w hSw
          (try dsimp only at hSw)
          go_simp
          try with_reducible rfl
        try simp only [Act.put, List.setIfInBounds_toArray, List.set_cons_zero, List.set_cons_succ]
        refine held_take (i := 15) (v := ?_) rfl (by kernel_rfl) (by kernel_rfl) (by kernel_rfl) (fun _ _ _ h => h) (by rfl) ?_ (by assumption) ?_
        rotate_left
        · intro w hSw
          (try dsimp only at hSw)
          go_simp
          try with_reducible rfl
        try simp only [Act.put, List.setIfInBounds_toArray, List.set_cons_zero, List.set_cons_succ]
        refine held_call (i := 16) (by kernel_rfl) rfl (fun K hK => ?_)
        have hkc := HHKC.out
        have hkf := HHKF.out
        go_simp
        have HBn := fun (u : Value) => blk_far (g' := w1.heap.size) (i := k) (u := u) HB.out (by omega)
        refine hK.out _ _ (by (try dsimp only); exact (blk_cells3 (HBn _)).1) (fun hHeld => ?_)
        clear hK K
        try simp only [Act.put, List.setIfInBounds_toArray, List.set_cons_zero, List.set_cons_succ]
        refine wpAnyH_done (by kernel_rfl) ?_ _
        refine only_in ?_
        go_wp2_with fail
        refine ⟨⟨k + 1, by omega, by go_num, Lib.hid (KeyRun.set (w := wr) HR.out hlt HGT.out (by rw [HX2.out, HY2.out]; rfl)), Lib.hid (HBn _), (hw.setCell (by dsimp only; omega) _).drew⟩, by simp [intOf]; omega⟩
    · obtain rfl : k = n := by omega
      have hlen := Qk.kd_len k x y
      have hstr := row8_str (B := w1.heap.size + 1) (c := k) (HR.out.reads hlen) (by simp [hlen])
      rw [Qs.kt_nums (Qk.kd_lt k x y)] at hstr
      clear hlen
      go_wp2_with fail
      go_ret2
      exact ⟨rfl, hw⟩

theorem key_any (z x y : Int) (w : World) :
    Calls Tryd.prog 9 #[.agg #[.int .i64 z, .int .i64 x, .int .i64 y]] w fun e w' => KeyR z x y e ∧ Below w.heap.size w w' := by
  rcases Bool.eq_false_or_eq_true (Cv.okB z x y) with h | h
  · obtain ⟨⟨hz0, hz1⟩, hx0, hx1, hy0, hy1⟩ := Cv.ok_in h
    have hk := key_ok z.toNat x.toNat y.toNat w (by omega) (by omega) (by omega)
    rw [Int.toNat_of_nonneg hz0, Int.toNat_of_nonneg hx0, Int.toNat_of_nonneg hy0] at hk
    refine hk.mono fun e w' ⟨he, hb⟩ => ⟨?_, hb⟩
    unfold KeyR Qs.key
    rw [if_pos h, Cv.pe_ok h]
    exact he
  · have hpe : (Cv.pe z x y != 0) = true := by rcases Cv.pe_not h with q | q <;> rw [q] <;> rfl
    have HK : Hid (KeyR z x y (.returned (.tuple #[.string ⟨#[]⟩, .int .i64 (Cv.pe z x y)]))) := Lib.hid (by unfold KeyR Qs.key; rw [if_neg (by simp [h])])
    clear h
    go_enter Tryd.func9, Tryd.ntmps9
    go_wp2_with fail
    refine (id_any _ _ _ _).mono ?_; rintro e w1 ⟨rfl, hb⟩
    have hw := (blk_one hb).2.2
    clear hb
    go_wp2_with fail
    go_ret2
    exact ⟨HK.out, hw⟩
end Go.Proofs.YtdipincjginmcaaDoor
