/- The walk of merge.Back on the one entry of the statement's last part. The walk of the pool's put. -/
import Derived.Test.YtlfahmdndlmhpaaGreatDoorM40
import Derived.Test.YtlfahmdndlmhpaaGreatDoorM27
import Derived.Test.YtlfahmdndlmhpaaGreatDoorM23
import Derived.Test.YtlfahmdndlmhpaaGreatDoorM18
import Derived.Lib.AppendStr
import Derived.WalkSpells
import Derived.StillTailTactics
import Derived.Deep.CutRange
import Derived.Deep.RegionLaw
namespace Go.Proofs.YtlfahmdndlmhpaaGreatDoor
open Go.RowKit

theorem one_row : En.row [(0, 0, 1, 1)] = 0 := by decide +kernel
theorem one_fits : En.fits [(0, 0, 1, 1)] := fun e he => by
  rw [List.mem_singleton] at he
  subst he
  exact ⟨⟨by decide, by decide⟩, ⟨by decide, by decide⟩, ⟨by decide, by decide⟩, by decide, by decide⟩
set_option maxRecDepth 100000 in
set_option maxHeartbeats 1000000 in
theorem back_one (g c : Nat) (w : World) (hr : Reads w w.heap.size 4 (some ⟨g, 0, none⟩) 1 (ecells [(0, 0, 1, 1)])) :
    Calls Tryz.prog 33 #[.slice (some ⟨g, 0, none⟩) 1 c, .string ⟨#[120]⟩] w (OfPost w) := by
  have HR := Lib.hid hr
  have hrow := one_row
  have hsx : (({ data := #[120] } : ByteArray).extract 0 1) = { data := #[120] } := rfl
  clear hr
  go_enter Tryz.func33, Tryz.ntmps33
  go_wp2_with fail
  refine (row_any (some ⟨g, 0, none⟩) 1 c [(0, 0, 1, 1)] w.heap.size _ (HR.out.below (blk_new w _)) rfl one_fits (by simp) (by omega)).mono ?_; rintro e w1 ⟨he, hb1⟩
  rw [hrow] at he
  subst he
  have HX1 := Lib.hid (blk_one hb1).1
  have hz1 := (blk_one hb1).2.1
  have HW1 := Lib.hid (blk_one hb1).2.2
  obtain ⟨e0, e1, e2, e3⟩ := ((HR.out.below HW1.out).ent rfl 0 (by decide))
  dsimp only [List.getElem_cons_zero, Nat.zero_mul, Nat.add_zero, Nat.zero_add] at e0 e1 e2 e3
  clear hb1 hrow
  go_wp2_with fail
  refine wp_loop_rounds 2 ?_
  rw [rounds_succ]
  go_wp2_with fail
  refine (mwrong_one _).mono ?_; rintro e w2 ⟨rfl, hb2⟩
  have hE2 := blk_keep2 hb2 (heap_alloc_new w1 (.cells #[.int .u64 0, .int .u64 0, .int .u32 1, .int .u32 1] 43))
  have HE2 := Lib.hid hE2
  have HX2 := Lib.hid (blk_keep2 hb2 (blk_alloc HX1.out (.cells #[.int .u64 0, .int .u64 0, .int .u32 1, .int .u32 1] 43)))
  have HW2 : Hid (Below w.heap.size w w2) := Lib.hid ((HW1.out.alloc HW1.out.size _).trans (hb2.mono (by simp; omega)))
  have hz2 : w1.heap.size < w2.heap.size := blk_lt hE2
  obtain ⟨a0, a1, a2, a3⟩ := blk_cells4 hE2
  obtain ⟨i0, hi, iz0, iz1, iz2⟩ := info_parts item_info
  clear e0 e1 e2 e3 hb2 hE2
  go_wp2_with fail
  refine wp_loop_rounds 2 ?_
  rw [rounds_succ]
  go_wp2_with (at_builtin; go_must (refine wpList_append_own _ rfl (.tmp 54) (.tmp 62) 25 rfl (w.heap.size + 1) 45 i0 _ 2 24 Tryz.underlying25 hi iz0 iz1 iz2 rfl (by omega) _ 0 [] rfl (World.ownsRow_nil _ _ _ _) ⟨w2.heap.size, 0, none⟩ 1 1 [.int .u64 0, .string ⟨#[120]⟩] rfl rfl ?c1 ?c2 ?c3 ?c4 ?c5 ?_))
  case c1 => exact blkn (l := [.int .u64 0, .string ⟨#[120]⟩]) (heap_at (by simp))
  case c2 => intro u hu; simp at hu; rcases hu with rfl | rfl <;> rfl
  case c3 => simp only [maxLen]; omega
  case c4 => omega
  case c5 => simp; omega
  intro v6 w6 hown6 hgr6 _
  have hF6 : w6.heap[w.heap.size]? = some (.cells #[.slice none 0 0] 27 (0, 0)) := blk_grown (blk_alloc HX2.out _) hgr6 (fun k e => by cases e)
  have hw6 : Below w.heap.size w w6 := (HW2.out.alloc HW2.out.size (.cells #[.int .u64 0, .string ⟨#[120]⟩] 45)).grown hgr6 (by simp; omega) (fun k e => by cases e)
  have hI6 : w6.heap[w1.heap.size]? = some (.cells #[.int .u64 0, .int .u64 0, .int .u32 1, .int .u32 1] 43 (0, 0)) := blk_grown (blk_alloc HE2.out _) hgr6 (fun k e => by cases e)
  obtain ⟨A6, c6, rfl, _⟩ := own_slice hown6
  obtain ⟨g6, c6', hv6, hg6, hgl6⟩ := hown6.form (by omega)
  injection hv6 with hv6 _ hcc
  subst hv6
  subst hcc
  obtain ⟨ad, ead, _, hcl⟩ := (Reads.of_own hown6).2 (by omega)
  injection ead with ead
  subst ead
  have k0 := hcl 0 _ rfl
  have k1 := hcl 1 _ rfl
  rw [add_plain] at k0 k1
  have HF6 := Lib.hid hF6
  have HW6 := Lib.hid hw6
  have HOF := Lib.hid (of_one g6 0 c6 w6 hgl6 k0 k1)
  clear hown6 hgr6 hF6 hw6 hI6 hi iz0 iz1 iz2 a0 a1 a2 a3 hcl k0 k1
  go_wp2_with fail
  rw [rounds_succ]
  go_wp2_with fail
  rw [rounds_succ]
  go_wp2_with fail
  refine HOF.out.mono ?_; rintro e w7 ⟨g7, c7, rfl, hO7, hb7⟩
  have HX7 := Lib.hid (blk_keep2 hb7 HF6.out)
  have z6 : w7.frozen? ⟨w.heap.size, 0, none⟩ = false := by simp [World.frozen?, HX7.out]
  have z7 := cell_of_row w7 w.heap.size 0 _ _ _ HX7.out
  have hz6 := HW6.out.size
  have hz9 := blk_lt HF6.out
  have HW7 := Lib.hid (bthen HW6.out hb7)
  have HO7 := Lib.hid hO7
  clear hO7 hb7
  go_wp2_with fail
  have hb8 : (w7.setCell ⟨w.heap.size, 0, none⟩ (.slice (some ⟨g7, 0, none⟩) 1 c7)).heap[w.heap.size]? = some (.cells #[.slice (some ⟨g7, 0, none⟩) 1 c7] 27 (0, 0)) := set_blk HX7.out
  have hO9 := ownsRow_setCell HO7.out (p := ⟨w.heap.size, 0, none⟩) (show w.heap.size < w6.heap.size by omega) (.slice (some ⟨g7, 0, none⟩) 1 c7)
  have hO10 := ownsRow_base hO9 (base' := w.heap.size) (by omega)
  have hc8 := cell_of_row _ w.heap.size 0 _ _ _ hb8
  exact bodyPost_ret (v := .tuple #[.agg #[.slice (some ⟨g7, 0, none⟩) 1 c7], .int .i64 0]) (by simp [results, Tryz.results33, go_sem, hc8]) rfl ⟨g7, c7, rfl, hO10, HW7.out.setCell (by simp) _⟩
end Go.Proofs.YtlfahmdndlmhpaaGreatDoor
namespace Go.Proofs.YtlfahmdndlmhpaaGreatDoor
open Go.RowKit Go.ChangeShapes

theorem int_info : (Tryz.prog.info? 3).map (fun i => (i.zero, i.size, i.bytes)) = some (some (.int .i64 0), 1, 8) := by kernel_rfl
theorem content_info : (Tryz.prog.info? 102).map (fun i => (i.zero, i.size, i.bytes)) = some (some (.agg #[.int .u64 0, .int .u32 0]), 2, 16) := by kernel_rfl
/-- an own row beside a map -/
theorem own_map {w w' : World} {base size n b : Nat} {e : TypeId} {v : Value} {xs : List Value} {es : Array MapEntry} {c : Nat} (h : w.ownsRow base e size v n xs) (hm : w.heap[b]? = some (.map es c)) (hg : w.grownBy w' (some b)) : w'.ownsRow base e size v n xs :=
  h.kept hg (by
    rcases h.2 with ⟨rfl, _⟩ | ⟨g, cap, cur, rfl, _, hh, _⟩
    · exact Or.inl rfl
    · refine Or.inr (fun e1 => ?_)
      simp only [Value.ownBlock, Option.some.injEq] at e1
      subst e1
      rw [hm] at hh
      cases hh)
theorem groups_block {w : World} {P : Program} {k e : TypeId} {q : IntKind} {base b n : Nat} {D : DataW Unit} (h : w.ownsGroups P k base e q b n D) : ∃ es c, w.heap[b]? = some (.map es c) := by
  obtain ⟨es, clock, hb, _⟩ := h
  exact ⟨es, clock, hb⟩
theorem own_off {w : World} {base size n k : Nat} {e t : TypeId} {v : Value} {xs : List Value} {cs : Array Value} {fr : Nat × Nat} (h : w.ownsRow base e size v n xs) (hk : w.heap[k]? = some (.cells cs t fr)) (hne : t ≠ e) : ∀ j, v.ownBlock = some j → j ≠ k := by
  intro j e1 e2
  subst e2
  rcases h.2 with ⟨rfl, _⟩ | ⟨g, cap, cur, rfl, _, hh, _⟩
  · cases e1
  · simp only [Value.ownBlock, Option.some.injEq] at e1
    subst e1
    rw [hk] at hh
    injection hh with hh
    injection hh with _ hh
    exact hne hh
theorem own_off_map {w : World} {base size n k : Nat} {e : TypeId} {v : Value} {xs : List Value} {es : Array MapEntry} {c : Nat} (h : w.ownsRow base e size v n xs) (hk : w.heap[k]? = some (.map es c)) : ∀ j, v.ownBlock = some j → j ≠ k := by
  intro j e1 e2
  subst e2
  rcases h.2 with ⟨rfl, _⟩ | ⟨g, cap, cur, rfl, _, hh, _⟩
  · cases e1
  · simp only [Value.ownBlock, Option.some.injEq] at e1
    subst e1
    rw [hk] at hh
    cases hh
theorem own_isP {w : World} {base size n : Nat} {e : TypeId} {v : Value} {xs : List Value} (h : w.ownsRow base e size v n xs) (he : ∀ cs fr, Pl.isP (.cells cs e fr) = true) : ∀ j, v.ownBlock = some j → ∀ o, w.heap[j]? = some o → Pl.isP o = true := by
  intro j e1 o ho
  rcases h.2 with ⟨rfl, _⟩ | ⟨g, cap, cur, rfl, _, hh, _⟩
  · cases e1
  · simp only [Value.ownBlock, Option.some.injEq] at e1
    subst e1
    rw [hh] at ho
    cases ho
    exact he _ _
/-- blocks of contents that are no pool's row -/
def Pl.Kx (vp : Value) (w w' : World) : Prop := ∀ (x : Nat) (cs : Array Value) (fr : Nat × Nat), w.heap[x]? = some (Obj.cells cs 102 fr) → vp.ownBlock ≠ some x → w'.heap[x]? = some (Obj.cells cs 102 fr)
structure Pl.Kw (g : Nat) (vp : Value) (w w' : World) : Prop where
  kp : Pl.Kp g w w'
  kx : Pl.Kx vp w w'
theorem Pl.Kw.trans {g : Nat} {vp : Value} {a b c : World} (h : Pl.Kw g vp a b) (k : Pl.Kw g vp b c) : Pl.Kw g vp a c := ⟨h.kp.trans k.kp, fun x cs fr h1 h2 => k.kx x cs fr (h.kx x cs fr h1 h2) h2⟩
theorem Pl.Kw.of_below {g : Nat} {vp : Value} {w w' : World} (h : Below w.heap.size w w') : Pl.Kw g vp w w' := ⟨Pl.Kp.of_below h, fun _ _ _ hk _ => blk_keep2 h hk⟩
theorem Pl.Kw.grown {g : Nat} {vp : Value} {w w' : World} {row : Option Nat} (h : w.grownBy w' row) (hr : ∀ j, row = some j → g ≤ j ∧ ∀ o, w.heap[j]? = some o → Pl.isP o = true) (hx : ∀ j, row = some j → vp.ownBlock = some j ∨ ∀ (cs : Array Value) (fr : Nat × Nat), w.heap[j]? ≠ some (Obj.cells cs 102 fr)) : Pl.Kw g vp w w' :=
  ⟨Pl.Kp.grown h hr, fun x cs fr h1 h2 => blk_grown h1 h (fun j e q => by
    subst q
    rcases hx j e with h3 | h3
    · exact h2 h3
    · exact h3 cs fr h1)⟩
/-- what a pool's put leaves behind the buckets' step -/
def Pl.five (g mb T c cp : Nat) (A Ap : Option Addr) (P : List ByteArray) (s : ByteArray) (w wx : World) : Prop :=
  ∃ D', Hid (wx.heap[g]? = some (.cells #[.slice A T c, .slice Ap P.length cp, .map (some mb)] 156 (0, 0))) ∧ Hid (wx.ownsGroups Tryz.prog 40 (mb + 1) 3 .i64 mb (P.length + 1) D') ∧ Hid (Pl.bok D' (P ++ [s])) ∧ w.heap.size + 1 < wx.heap.size ∧
    Hid (wx.heap[w.heap.size]? = some (.cells #[.int .u64 0, .int .u32 0] 102 (0, 0))) ∧ Hid (wx.heap[w.heap.size + 1]? = some (.cells #[.int .u64 (T : Int), .int .u32 (s.size : Int)] 102 (0, 0))) ∧ Hid (wx.ownsRow (g + 1) 5 1 (.slice A T c) T ((Pl.text P).map (Value.int .u8))) ∧ Hid (wx.ownsRow (g + 1) 102 2 (.slice Ap P.length cp) P.length (ccells 0 P)) ∧ Hid (Pl.Kw g (.slice Ap P.length cp) w wx)
theorem Pl.five_of {g mb T c cp : Nat} {A Ap : Option Addr} {P : List ByteArray} {s : ByteArray} {w w1 w3 w4 : World} {D : DataW Unit} {v v3 : Value} {zs : List Int} (hgm : g < mb)
    (HP4 : w4.heap[g]? = some (.cells #[.slice A T c, .slice Ap P.length cp, .map (some mb)] 156 (0, 0))) (HG2 : w1.ownsGroups Tryz.prog 40 (mb + 1) 3 .i64 mb P.length D) (HBOK : Pl.bok D P) (hz : w.heap.size + 1 < w1.heap.size)
    (HX2 : w1.heap[w.heap.size]? = some (.cells #[.int .u64 0, .int .u32 0] 102 (0, 0))) (HC2 : w1.heap[w.heap.size + 1]? = some (.cells #[.int .u64 (T : Int), .int .u32 (s.size : Int)] 102 (0, 0))) (HT2 : w1.ownsRow (g + 1) 5 1 (.slice A T c) T ((Pl.text P).map (Value.int .u8))) (HV2 : w1.ownsRow (g + 1) 102 2 (.slice Ap P.length cp) P.length (ccells 0 P)) (HK2 : Pl.Kw g (.slice Ap P.length cp) w w1)
    (hOY : ((w1.alloc (.cells #[.int .i64 (P.length : Int)] 3 (0, 0))).drew).ownsInts (mb + 1) 3 .i64 v zs) (hd : dints (D.atKey (.int .u64 (Fv.sum s)) .nil) = zs) (hgr3 : ((w1.alloc (.cells #[.int .i64 (P.length : Int)] 3 (0, 0))).drew).grownBy w3 v.ownBlock) (hoi3 : w3.ownsInts (mb + 1) 3 .i64 v3 (zs ++ [(P.length : Int)]))
    (hG4 : w4.ownsGroups Tryz.prog 40 (mb + 1) 3 .i64 mb (P.length + 1) (D.put (.int .u64 (Fv.sum s)) (rowDatum .i64 v3 (zs ++ [(P.length : Int)])))) (hgr4 : w3.grownBy w4 (some mb)) : Pl.five g mb T c cp A Ap P s w w4 := by
  obtain ⟨es, cl, hm⟩ := groups_block HG2
  have hmx : mb ≠ w.heap.size := fun e => by rw [e, HX2] at hm; cases hm
  have hmc : mb ≠ w.heap.size + 1 := fun e => by rw [e, HC2] at hm; cases hm
  have hm3 : w3.heap[mb]? = some (.map es cl) := blk_grown (w := (w1.alloc (.cells #[.int .i64 (P.length : Int)] 3 (0, 0))).drew) (blk_alloc hm (.cells #[.int .i64 (P.length : Int)] 3 (0, 0))) hgr3 (fun k e => by have := (hOY.1.lt k e).1; omega)
  have hX3 := blk_grown (w := (w1.alloc (.cells #[.int .i64 (P.length : Int)] 3 (0, 0))).drew) (blk_alloc HX2 (.cells #[.int .i64 (P.length : Int)] 3 (0, 0))) hgr3 (own_off hOY.1 (blk_alloc HX2 (.cells #[.int .i64 (P.length : Int)] 3 (0, 0))) (by decide))
  have hC3 := blk_grown (w := (w1.alloc (.cells #[.int .i64 (P.length : Int)] 3 (0, 0))).drew) (blk_alloc HC2 (.cells #[.int .i64 (P.length : Int)] 3 (0, 0))) hgr3 (own_off hOY.1 (blk_alloc HC2 (.cells #[.int .i64 (P.length : Int)] 3 (0, 0))) (by decide))
  have hT3 := own_apart (w := (w1.alloc (.cells #[.int .i64 (P.length : Int)] 3 (0, 0))).drew) (HT2.alloc (.cells #[.int .i64 (P.length : Int)] 3 (0, 0))) hOY.1 (by decide) hgr3
  have hV3 := own_apart (w := (w1.alloc (.cells #[.int .i64 (P.length : Int)] 3 (0, 0))).drew) (HV2.alloc (.cells #[.int .i64 (P.length : Int)] 3 (0, 0))) hOY.1 (by decide) hgr3
  have hk1 : Pl.Kw g (.slice Ap P.length cp) w1 (w1.alloc (.cells #[.int .i64 (P.length : Int)] 3 (0, 0))).drew := Pl.Kw.of_below (blk_new w1 (.cells #[.int .i64 (P.length : Int)] 3 (0, 0))).drew
  refine ⟨_, Lib.hid HP4, Lib.hid hG4, Lib.hid (Pl.bok_put HBOK (groups_map HG2).1 (by rw [dints_row hoi3, hd])), ?_, Lib.hid (blk_grown hX3 hgr4 (fun k e => by cases e; exact hmx)), Lib.hid (blk_grown hC3 hgr4 (fun k e => by cases e; exact hmc)), Lib.hid (own_map hT3 hm3 hgr4), Lib.hid (own_map hV3 hm3 hgr4), Lib.hid ?_⟩
  · have h1 := hgr3.size
    have h2 := hgr4.size
    simp at h1
    omega
  · exact ((HK2.trans hk1).trans (Pl.Kw.grown hgr3 (fun j e => ⟨by have := (hOY.1.lt j e).1; omega, own_isP hOY.1 (fun _ _ => rfl) j e⟩) (fun j e => Or.inr (fun cs fr q => own_off hOY.1 q (by decide) j e rfl)))).trans (Pl.Kw.grown hgr4 (fun j e => by
      cases e
      exact ⟨by omega, fun o ho => by rw [hm3] at ho; cases ho; rfl⟩) (fun j e => by
      cases e
      exact Or.inr (fun cs fr q => by rw [hm3] at q; cases q)))
theorem strCells_nums' (s : ByteArray) : Lib.strCells s = (Vi.nums s).map (Value.int .u8) := by
  unfold Lib.strCells Vi.nums
  rw [List.map_map]
  rfl
theorem Pl.put_end {g mb T c6 cp : Nat} {A6 Ap : Option Addr} {P : List ByteArray} {s : ByteArray} {w w8 : World} {D : DataW Unit} {t8 v8 a b : Value} (hgw : g < w.heap.size) (hgm : g < mb) (hTT : T = Pl.tot P)
    (HP8 : w8.heap[g]? = some (.cells #[t8, .slice A6 (P.length + 1) c6, .map (some mb)] 156 (0, 0))) (HT8 : w8.ownsRow (g + 1) 5 1 v8 (T + s.size) ((Pl.text P).map (Value.int .u8) ++ Lib.strCells s)) (HV8 : w8.ownsRow (g + 1) 102 2 (.slice A6 (P.length + 1) c6) (P.length + 1) (ccells 0 (P ++ [s])))
    (HLOC : ∀ j, (Value.slice A6 (P.length + 1) c6).ownBlock = some j → j ≠ w.heap.size ∧ j ≠ w.heap.size + 1) (HG8 : w8.ownsGroups Tryz.prog 40 (mb + 1) 3 .i64 mb (P.length + 1) D) (HB : Pl.bok D (P ++ [s])) (HK8 : Pl.Kw g (.slice Ap P.length cp) w w8)
    (HX8 : w8.heap[w.heap.size]? = some (.cells #[.int .u64 0, .int .u32 0] 102 (0, 0))) :
    Pl.at_ (((w8.setCell ⟨g, 0, none⟩ v8).setCell ⟨w.heap.size, 0, none⟩ a).setCell ⟨w.heap.size, 1, none⟩ b) g (P ++ [s]) ∧ Pl.Kp g w (((w8.setCell ⟨g, 0, none⟩ v8).setCell ⟨w.heap.size, 0, none⟩ a).setCell ⟨w.heap.size, 1, none⟩ b) ∧ Pl.Kx (.slice Ap P.length cp) w (((w8.setCell ⟨g, 0, none⟩ v8).setCell ⟨w.heap.size, 0, none⟩ a).setCell ⟨w.heap.size, 1, none⟩ b) := by
  have hX0 := set_far (g := g) (i := 0) (u := v8) HX8 (by omega)
  have hX1 := set_blk (i := 0) (u := a) hX0
  have own2 : ∀ {base size n : Nat} {e : TypeId} {v : Value} {xs : List Value}, w8.ownsRow (g + 1) e size v n xs → (v.ownBlock = none ∨ v.ownBlock ≠ some w.heap.size) → (((w8.setCell ⟨g, 0, none⟩ v8).setCell ⟨w.heap.size, 0, none⟩ a).setCell ⟨w.heap.size, 1, none⟩ b).ownsRow (g + 1) e size v n xs := fun h hn =>
    ((ownsRow_setCell h (p := ⟨g, 0, none⟩) (by simp) v8).kept (gr_set _ _ 0 a) hn).kept (gr_set _ _ 1 b) hn
  have far : ∀ {k : Nat} {o : Obj}, w8.heap[k]? = some o → k ≠ g → k ≠ w.heap.size → (((w8.setCell ⟨g, 0, none⟩ v8).setCell ⟨w.heap.size, 0, none⟩ a).setCell ⟨w.heap.size, 1, none⟩ b).heap[k]? = some o := fun h h1 h2 => set_far (set_far (set_far h h1) h2) h2
  refine ⟨⟨v8, .slice A6 (P.length + 1) c6, .map (some mb), (set_far (set_far ((set_blk HP8).trans (by rfl)) (by omega)) (by omega)), ?_, ?_, Or.inr ⟨mb, D, rfl, hgm, ?_, HB⟩⟩, ?_, fun x cs fr hx hv => far (HK8.kx x cs fr hx hv) (fun e => by have q := HK8.kx x cs fr hx hv; rw [e, HP8] at q; cases q) (fun e => by have := blk_lt hx; omega)⟩
  · have hl : (Pl.text (P ++ [s])).length = T + s.size := by rw [Pl.text_len, Pl.tot_snoc, hTT]
    have hc : (Pl.text (P ++ [s])).map (Value.int .u8) = (Pl.text P).map (Value.int .u8) ++ Lib.strCells s := by rw [Pl.text_snoc, List.map_append, strCells_nums']
    unfold Row8
    rw [hl, hc]
    refine own2 (base := 0) HT8 ?_
    cases hv : v8.ownBlock with
    | none => exact Or.inl rfl
    | some j => exact Or.inr (fun e => own_off HT8 HX8 (by decide) j hv (by injection e))
  · rw [List.length_append]
    refine own2 (base := 0) HV8 ?_
    cases hv : (Value.slice A6 (P.length + 1) c6).ownBlock with
    | none => exact Or.inl rfl
    | some j => exact Or.inr (fun e => (HLOC j hv).1 (by injection e))
  · rw [List.length_append]
    exact groups_same HG8 (fun k cs fr hk => far hk (fun e => by subst e; rw [HP8] at hk; cases hk) (fun e => by subst e; rw [HX8] at hk; cases hk)) (fun k es cl hk => far hk (fun e => by subst e; rw [HP8] at hk; cases hk) (fun e => by subst e; rw [HX8] at hk; cases hk))
  · refine ((HK8.kp.trans (Pl.Kp.grown (gr_set w8 g 0 v8) (fun j e => ?_))).trans (Pl.Kp.grown (gr_set _ w.heap.size 0 a) (fun j e => ?_))).trans (Pl.Kp.grown (gr_set _ w.heap.size 1 b) (fun j e => ?_))
    · cases e
      exact ⟨Nat.le_refl _, fun o ho => by rw [HP8] at ho; cases ho; rfl⟩
    · cases e
      exact ⟨Nat.le_of_lt hgw, fun o ho => by rw [hX0] at ho; cases ho; rfl⟩
    · cases e
      exact ⟨Nat.le_of_lt hgw, fun o ho => by rw [hX1] at ho; cases ho; rfl⟩
def PputPost (g : Nat) (P : List ByteArray) (s : ByteArray) (w : World) (e : Ending) (w' : World) : Prop := e = .returned (.agg #[.int .u64 (Pl.tot P : Int), .int .u32 (s.size : Int)]) ∧ Pl.at_ w' g (P ++ [s]) ∧ Pl.Kp g w w' ∧ ∀ vp, w.cell? ⟨g, 1, none⟩ = some vp → Pl.Kx vp w w'
set_option maxRecDepth 100000 in
set_option maxHeartbeats 4000000 in
theorem pput_any (g : Nat) (P : List ByteArray) (s : ByteArray) (w : World) (h : Pl.at_ w g P) (ht : Pl.tot P + s.size ≤ 1000000) (hl : P.length ≤ 100000) (hs : s.size ≤ 65536) :
    Calls Tryz.prog 77 #[.pointer (some ⟨g, 0, none⟩), .string s] w (PputPost g P s w) := by
  obtain ⟨vt, vp, mv, h1, h2, h3, h4⟩ := h
  have hl0 := Pl.text_len P
  obtain ⟨A, c, rfl, hc⟩ := h2.slice
  obtain ⟨Ap, cp, rfl, hcp⟩ := own_slice h3
  have hgw : g < w.heap.size := blk_lt h1
  obtain ⟨T, hT⟩ : ∃ T, T = (Pl.text P).length := ⟨_, rfl⟩
  have h2' : w.ownsRow (g + 1) 5 1 (.slice A (Pl.text P).length c) (Pl.text P).length ((Pl.text P).map (Value.int .u8)) := h2
  rw [← hT] at h1 h2' hc hl0
  have H1 := Lib.hid h1
  have H2 := Lib.hid h2'
  have H3 := Lib.hid h3
  have c0 := cell_of_row w g 0 _ _ _ h1
  have c1 := cell_of_row w g 1 _ _ _ h1
  have c2 := cell_of_row w g 2 _ _ _ h1
  have f2 : w.frozen? ⟨g, 2, none⟩ = false := by simp [World.frozen?, h1]
  have hTi : T ≤ 1000000 := by omega
  have hw1 : IntKind.u64.wrap (T : Int) = T := by rw [IntKind.wrap_u64]; omega
  have hw2 : IntKind.u32.wrap (s.size : Int) = s.size := by rw [IntKind.wrap_u32]; omega
  have HTT := Lib.hid (show T = Pl.tot P by omega)
  have qT : ∀ (w : World) (r : Option Nat), (binOp .eql 154 (.map r) (.map none)).run Tryz.prog w = .ok (.bool r.isNone) w := fun w r => run_eql_map_nil w _ _ _ r Tryz.underlying154
  clear h1 h2 h2' h3 hT hl0
  have HMP := Lib.hid h4
  clear h4
  have HC0 : Hid (((w.alloc (.cells #[.int .u64 0, .int .u32 0] 102 (0, 0))).alloc (.cells #[.int .u64 (T : Int), .int .u32 (s.size : Int)] 102 (0, 0))).heap[w.heap.size + 1]? = some (.cells #[.int .u64 (T : Int), .int .u32 (s.size : Int)] 102 (0, 0))) := Lib.hid (heap_at (by simp))
  obtain ⟨bq, qg, qm, hbq⟩ : ∃ bq, (∀ w, (eqGuard .eql 154 (Operand.tmp 20) (Operand.const (.map none)) mv (.map none)).run Tryz.prog w = .ok () w) ∧ (∀ w, (binOp .eql 154 mv (.map none)).run Tryz.prog w = .ok (.bool bq) w) ∧ (bq = true ∧ (P = [] ∧ mv = .map none) ∨ bq = false ∧ ∃ mb D, mv = .map (some mb) ∧ g < mb ∧ w.ownsGroups Tryz.prog 40 (mb + 1) 3 .i64 mb P.length D ∧ Pl.bok D P) := by
    rcases HMP.out with ⟨hP, rfl⟩ | ⟨mb, D, rfl, hgm, hG, hbok⟩
    · exact ⟨true, fun w => by simp [eqGuard, go_sem], fun w => qT w none, Or.inl ⟨rfl, hP, rfl⟩⟩
    · exact ⟨false, fun w => by simp [eqGuard, go_sem], fun w => qT w (some mb), Or.inr ⟨rfl, mb, D, rfl, hgm, hG, hbok⟩⟩
  have HBQ := Lib.hid hbq
  clear hbq
  go_enter Tryz.func77, Tryz.ntmps77
  go_upto_if 21 with (fail)
  go_cut [5] from 17 to 25 (fun c5 wx => ∃ mb D, c5 = .pointer (some ⟨w.heap.size + 1, 0, none⟩) ∧ g < mb ∧ w.heap.size + 1 < wx.heap.size ∧ Hid (wx.heap[g]? = some (.cells #[.slice A T c, .slice Ap P.length cp, .map (some mb)] 156 (0, 0))) ∧ Hid (wx.ownsGroups Tryz.prog 40 (mb + 1) 3 .i64 mb P.length D) ∧ Hid (Pl.bok D P) ∧
    Hid (wx.heap[w.heap.size]? = some (.cells #[.int .u64 0, .int .u32 0] 102 (0, 0))) ∧ Hid (wx.heap[w.heap.size + 1]? = some (.cells #[.int .u64 (T : Int), .int .u32 (s.size : Int)] 102 (0, 0))) ∧ Hid (wx.ownsRow (g + 1) 5 1 (.slice A T c) T ((Pl.text P).map (Value.int .u8))) ∧ Hid (wx.ownsRow (g + 1) 102 2 (.slice Ap P.length cp) P.length (ccells 0 P)) ∧ Hid (Pl.Kw g (.slice Ap P.length cp) w wx))
  case first =>
    rcases HBQ.out with ⟨rfl, hP, rfl⟩ | ⟨rfl, mb, D, rfl, hgm, hG, hbok⟩
    · have HPN := Lib.hid hP
      clear hP
      have hmm := @run_makeMap Tryz.prog
      have HH : Hid ((((w.alloc (.cells #[.int .u64 0, .int .u32 0] 102 (0, 0))).alloc (.cells #[.int .u64 (T : Int), .int .u32 (s.size : Int)] 102 (0, 0))).alloc (.map #[] 0)).heap[g]? = some (.cells #[.slice A T c, .slice Ap P.length cp, .map none] 156 (0, 0))) := Lib.hid (blk_alloc (blk_alloc (blk_alloc H1.out _) _) _)
      have f3 : (((w.alloc (.cells #[.int .u64 0, .int .u32 0] 102 (0, 0))).alloc (.cells #[.int .u64 (T : Int), .int .u32 (s.size : Int)] 102 (0, 0))).alloc (.map #[] 0)).frozen? ⟨g, 2, none⟩ = false := by simp [World.frozen?, HH.out]
      have d3 : (((w.alloc (.cells #[.int .u64 0, .int .u32 0] 102 (0, 0))).alloc (.cells #[.int .u64 (T : Int), .int .u32 (s.size : Int)] 102 (0, 0))).alloc (.map #[] 0)).cell? ⟨g, 2, none⟩ = some (.map none) := cell_of_row _ g 2 _ _ _ HH.out
      go_wp2_with fail
      go_meet
      have e2 : ((w.alloc (.cells #[.int .u64 0, .int .u32 0] 102 (0, 0))).alloc (.cells #[.int .u64 (T : Int), .int .u32 (s.size : Int)] 102 (0, 0))).heap.size = w.heap.size + 1 + 1 := by simp
      have hg0 := World.ownsGroups_made (H := Unit) ((w.alloc (.cells #[.int .u64 0, .int .u32 0] 102 (0, 0))).alloc (.cells #[.int .u64 (T : Int), .int .u32 (s.size : Int)] 102 (0, 0))) Tryz.prog 40 3 .i64
      rw [e2] at hg0
      have hk0 : Pl.Kw g (.slice Ap P.length cp) w (((w.alloc (.cells #[.int .u64 0, .int .u32 0] 102 (0, 0))).alloc (.cells #[.int .u64 (T : Int), .int .u32 (s.size : Int)] 102 (0, 0))).alloc (.map #[] 0)) := Pl.Kw.of_below (by repeat (first | with_reducible exact Below.refl _ _ | with_reducible assumption | with_reducible refine Below.setCell ?_ (by first | (simp; done) | (simp; omega) | omega) _ | with_reducible refine Below.alloc ?_ (by first | exact Nat.le_refl _ | (simp; done) | (simp; omega) | omega) _ | with_reducible refine Below.drew ?_))
      exact ⟨w.heap.size + 1 + 1, .map [], rfl, by omega, by simp <;> omega, Lib.hid ((set_blk HH.out).trans (by rfl)), Lib.hid (by
        rw [HPN.out]
        exact groups_same hg0 (fun k cs fr hk => set_far hk (fun e => by subst e; rw [HH.out] at hk; cases hk)) (fun k es cl hk => set_far hk (fun e => by subst e; rw [HH.out] at hk; cases hk))), Lib.hid (by rw [HPN.out]; exact Pl.bok_nil), Lib.hid (set_far (blk_alloc (blk_alloc (heap_alloc_new w _) _) _) (by omega)), Lib.hid (set_far (blk_alloc HC0.out _) (by omega)),
        Lib.hid (ownsRow_setCell (((H2.out.alloc _).alloc _).alloc _) (by simp) _), Lib.hid (ownsRow_setCell (((H3.out.alloc _).alloc _).alloc _) (by simp) _), Lib.hid (hk0.trans (Pl.Kw.grown (gr_set _ g 2 _) (fun j e => by
          cases e
          exact ⟨Nat.le_refl _, fun o ho => by rw [HH.out] at ho; cases ho; rfl⟩) (fun j e => by
          cases e
          exact Or.inr (fun cs fr q => by rw [HH.out] at q; cases q))))⟩
    · have HG := Lib.hid hG
      have HBOK := Lib.hid hbok
      clear hG hbok
      go_wp2_with fail
      go_meet
      exact ⟨mb, D, rfl, hgm, by simp, Lib.hid (blk_alloc (blk_alloc H1.out _) _), Lib.hid (groups_same HG.out (fun _ _ _ hk => blk_alloc (blk_alloc hk _) _) (fun _ _ _ hk => blk_alloc (blk_alloc hk _) _)), HBOK, Lib.hid (blk_alloc (heap_alloc_new w _) _), HC0,
        Lib.hid ((H2.out.alloc _).alloc _), Lib.hid ((H3.out.alloc _).alloc _), Lib.hid (Pl.Kw.of_below (by repeat (first | with_reducible exact Below.refl _ _ | with_reducible assumption | with_reducible refine Below.setCell ?_ (by first | (simp; done) | (simp; omega) | omega) _ | with_reducible refine Below.alloc ?_ (by first | exact Nat.le_refl _ | (simp; done) | (simp; omega) | omega) _ | with_reducible refine Below.drew ?_)))⟩
  case rest =>
    obtain ⟨mb, D, rfl, hgm, hzx, HP1, HG1, HBOK, HX1, HC1, HT1, HV1, HK1⟩ := hcut
    clear c0 c1 c2 f2 qg qm qT
    go_wp2_with fail
    refine (sum_any s (by omega) _).mono ?_; rintro e w1 ⟨rfl, hb⟩
    have HP2 := Lib.hid (blk_keep2 hb HP1.out)
    have HG2 := Lib.hid (groups_same HG1.out (fun _ _ _ hk => blk_keep2 hb hk) (fun _ _ _ hk => blk_keep2 hb hk))
    have HX2 := Lib.hid (blk_keep2 hb HX1.out)
    have HC2 := Lib.hid (blk_keep2 hb HC1.out)
    have HT2 := Lib.hid (ownsRow_keep HT1.out hb)
    have HV2 := Lib.hid (ownsRow_keep HV1.out hb)
    have HK2 := Lib.hid (HK1.out.trans (Pl.Kw.of_below hb))
    have hz2 := hb.size
    have c1 := cell_of_row w1 g 1 _ _ _ HP2.out
    have c2 := cell_of_row w1 g 2 _ _ _ HP2.out
    clear hb
    obtain ⟨i0, hi, iz0, iz1, iz2⟩ := info_parts int_info
    have hmbw : mb < w1.heap.size := (groups_map HG2.out).2
    go_upto_region 5 with (fail)
    go_cut [6] from 28 to 45 (fun _ wx => Pl.five g mb T c cp A Ap P s w wx)
    case first =>
      refine wp_region_held_drew (S := (fun w' => w'.cell? ⟨g, 1, none⟩ = some (.slice Ap P.length cp) ∧ w'.cell? ⟨g, 2, none⟩ = some (.map (some mb)))) (by kernel_rfl) (by (try dsimp only); exact ⟨c1, c2⟩) (fun hHeld => ?_)
      simp only [List.size_toArray, List.length_cons, List.length_nil, Nat.zero_add, Nat.reduceAdd]
      refine held_take (i := 0) (v := ?_) rfl (by kernel_rfl) (by kernel_rfl) (by kernel_rfl) (fun _ _ _ h => h) (by rfl) ?_ (by assumption) ?_
      rotate_left
      · intro w hSw
        (try dsimp only at hSw)
        go_simp
        try with_reducible rfl
      try simp only [Act.put, List.setIfInBounds_toArray, List.set_cons_zero, List.set_cons_succ]
      refine held_take (i := 1) (v := ?_) rfl (by kernel_rfl) (by kernel_rfl) (by kernel_rfl) (fun _ _ _ h => h) (by rfl) ?_ (by assumption) ?_
      rotate_left
      · intro w hSw
        (try dsimp only at hSw)
        go_simp
        try with_reducible rfl
      try simp only [Act.put, List.setIfInBounds_toArray, List.set_cons_zero, List.set_cons_succ]
      refine held_take (i := 2) (v := ?_) rfl (by kernel_rfl) (by kernel_rfl) (by kernel_rfl) (fun _ _ _ h => h) (by rfl) ?_ (by assumption) ?_
      rotate_left
      · intro w hSw
        (try dsimp only at hSw)
        go_simp
        try with_reducible rfl
      try simp only [Act.put, List.setIfInBounds_toArray, List.set_cons_zero, List.set_cons_succ]
      refine held_take (i := 3) (v := ?_) rfl (by kernel_rfl) (by kernel_rfl) (by kernel_rfl) (fun _ _ _ h => h) (by rfl) ?_ (by assumption) ?_
      rotate_left
      · intro w hSw
        (try dsimp only at hSw)
        go_simp
        try with_reducible rfl
      try simp only [Act.put, List.setIfInBounds_toArray, List.set_cons_zero, List.set_cons_succ]
      refine held_take (i := 4) (v := ?_) rfl (by kernel_rfl) (by kernel_rfl) (by kernel_rfl) (fun _ _ _ h => h) (by rfl) ?_ (by assumption) ?_
      rotate_left
      · intro w hSw
        (try dsimp only at hSw)
        go_simp
        try with_reducible rfl
      try simp only [Act.put, List.setIfInBounds_toArray, List.set_cons_zero, List.set_cons_succ]
      refine held_take (i := 5) (v := ?_) rfl (by kernel_rfl) (by kernel_rfl) (by kernel_rfl) (fun _ _ _ h => h) (by rfl) ?_ (by assumption) ?_
      rotate_left
      · intro w hSw
        (try dsimp only at hSw)
        go_simp
        try with_reducible rfl
      try simp only [Act.put, List.setIfInBounds_toArray, List.set_cons_zero, List.set_cons_succ]
      refine held_take (i := 6) (v := ?_) rfl (by kernel_rfl) (by kernel_rfl) (by kernel_rfl) (fun _ _ _ h => h) (by rfl) ?_ (by assumption) ?_
      rotate_left
      · intro w hSw
        (try dsimp only at hSw)
        go_simp
        try with_reducible rfl
      try simp only [Act.put, List.setIfInBounds_toArray, List.set_cons_zero, List.set_cons_succ]
      refine held_take (i := 7) (v := ?_) rfl (by kernel_rfl) (by kernel_rfl) (by kernel_rfl) (fun _ _ _ h => h) (by rfl) ?_ (by assumption) ?_
      rotate_left
      · intro w hSw
        (try dsimp only at hSw)
        go_simp
        try with_reducible rfl
      try simp only [Act.put, List.setIfInBounds_toArray, List.set_cons_zero, List.set_cons_succ]
      refine held_take (i := 8) (v := ?_) rfl (by kernel_rfl) (by kernel_rfl) (by kernel_rfl) (fun _ _ _ h => h) (by rfl) ?_ (by assumption) ?_
      rotate_left
      · intro w hSw
        (try dsimp only at hSw)
        go_simp
        try with_reducible rfl
      try simp only [Act.put, List.setIfInBounds_toArray, List.set_cons_zero, List.set_cons_succ]
      refine held_take (i := 9) (v := ?_) rfl (by kernel_rfl) (by kernel_rfl) (by kernel_rfl) (fun _ _ _ h => h) (by rfl) ?_ (by assumption) ?_
      rotate_left
      · intro w hSw
        (try dsimp only at hSw)
        go_simp
        try with_reducible rfl
      try simp only [Act.put, List.setIfInBounds_toArray, List.set_cons_zero, List.set_cons_succ]
      refine held_take (i := 11) (v := ?_) rfl (by kernel_rfl) (by kernel_rfl) (by kernel_rfl) (fun _ _ _ h => h) (by rfl) ?_ (by assumption) ?_
      rotate_left
      · intro w hSw
        (try dsimp only at hSw)
        go_simp
        try with_reducible rfl
      try simp only [Act.put, List.setIfInBounds_toArray, List.set_cons_zero, List.set_cons_succ]
      refine held_take (i := 12) (v := ?_) rfl (by kernel_rfl) (by kernel_rfl) (by kernel_rfl) (fun _ _ _ h => h) (by rfl) ?_ (by assumption) ?_
      rotate_left
      · intro w hSw
        (try dsimp only at hSw)
        go_simp
        try with_reducible rfl
      try simp only [Act.put, List.setIfInBounds_toArray, List.set_cons_zero, List.set_cons_succ]
      refine held_take (i := 13) (v := ?_) rfl (by kernel_rfl) (by kernel_rfl) (by kernel_rfl) (fun _ _ _ h => h) (by rfl) ?_ (by assumption) ?_
      rotate_left
      · intro w hSw
        (try dsimp only at hSw)
        go_simp
        try with_reducible rfl
      try simp only [Act.put, List.setIfInBounds_toArray, List.set_cons_zero, List.set_cons_succ]
      refine held_take (i := 14) (v := ?_) rfl (by kernel_rfl) (by kernel_rfl) (by kernel_rfl) (fun _ _ _ h => h) (by rfl) ?_ (by assumption) ?_
      rotate_left
      · intro w hSw
        (try dsimp only at hSw)
        go_simp
        try with_reducible rfl
      try simp only [Act.put, List.setIfInBounds_toArray, List.set_cons_zero, List.set_cons_succ]
      refine held_take (i := 15) (v := ?_) rfl (by kernel_rfl) (by kernel_rfl) (by kernel_rfl) (fun _ _ _ h => h) (by rfl) ?_ (by assumption) ?_
      rotate_left
      · intro w hSw
        (try dsimp only at hSw)
        go_simp
        try with_reducible rfl
      try simp only [Act.put, List.setIfInBounds_toArray, List.set_cons_zero, List.set_cons_succ]
      refine held_two (i := 10) (j := 16) (by kernel_rfl) rfl rfl (fun K hK => ?_) (fun K hK => ?_)
      · skip
        obtain ⟨v, zs, hlk, hat, hoi, hzl, hback⟩ := World.ownsGroups.at (w := w1.drew) (groups_same HG2.out (fun _ _ _ hk => hk) (fun _ _ _ hk => hk)) sum_keyed Tryz.underlying154 (ints_zero _) (by unfold maxLen; omega) (sum_key s)
        obtain ⟨Av, cv, rfl, hcv⟩ := own_slice hoi.1
        have HAT := Lib.hid hat
        have HOI := Lib.hid hoi
        have HBACK := Lib.hid hback
        clear hat hoi hback
        go_simp
        skip
        refine hK.out _ _ (by (try dsimp only); exact ⟨c1, c2⟩) (fun hHeld => ?_)
        clear hK K
        try simp only [Act.put, List.setIfInBounds_toArray, List.set_cons_zero, List.set_cons_succ]
        refine held_call (i := 16) (by kernel_rfl) rfl (fun K hK => ?_)
        go_simp
        skip
        refine hK.out _ _ (by (try dsimp only); exact ⟨cell_al c1 _, cell_al c2 _⟩) (fun hHeld => ?_)
        clear hK K
        try simp only [Act.put, List.setIfInBounds_toArray, List.set_cons_zero, List.set_cons_succ]
        have HOY : Hid (((w1.alloc (.cells #[.int .i64 (P.length : Int)] 3 (0, 0))).drew).ownsInts (mb + 1) 3 .i64 (.slice Av zs.length cv) zs) := Lib.hid (HOI.out.alloc _)
        have hvlt := HOY.out.1.lt
        refine held_call (i := 17) (by kernel_rfl) rfl (fun K hK => ?_)
        refine step_append_any _ rfl (.tmp 38) (.tmp 44) 202 rfl (mb + 1) 3 i0 _ 1 8 Tryz.underlying202 hi iz0 iz1 iz2 rfl (by omega) _ zs.length (zs.map (Value.int .i64)) rfl HOY.out.1 (w1.heap.size + 1) _ _ _ [.int .i64 (P.length : Int)] rfl (reads_cells (heap_alloc_new w1 (.cells #[.int .i64 (P.length : Int)] 3 (0, 0))) rfl (by omega)).drew ?_ ?_ ?_ ?_ ?_
        · intro u hu; simp at hu; subst hu; rfl
        · simp only [maxLen]; omega
        · omega
        · simp; omega
        intro v3 w3 hown3 hgr3' hat3'
        have hgr3 : ((w1.alloc (.cells #[.int .i64 (P.length : Int)] 3 (0, 0))).drew).grownBy w3 (Value.slice Av zs.length cv).ownBlock := hgr3'
        have hat3 : v3.ownBlock = (Value.slice Av zs.length cv).ownBlock ∨ v3.ownBlock = some ((w1.alloc (.cells #[.int .i64 (P.length : Int)] 3 (0, 0))).drew).heap.size := hat3'
        clear hgr3' hat3'
        have hgm1 : g < w1.heap.size := by omega
        have hP3 : w3.heap[g]? = some (.cells #[.slice A T c, .slice Ap P.length cp, .map (some mb)] 156 (0, 0)) := blk_grown (w := (w1.alloc (.cells #[.int .i64 (P.length : Int)] 3 (0, 0))).drew) (blk_alloc HP2.out (.cells #[.int .i64 (P.length : Int)] 3 (0, 0))) hgr3 (fun k e => by have := (hvlt k e).1; omega)
        have HP3 := Lib.hid hP3
        have hoi3 := HOY.out.appended hown3 (by simp [Lit.wf, IntKind.min, IntKind.max, IntKind.signed, IntKind.bits]; omega)
        have h03 : (w1.drew).grownBy w3 (Value.slice Av zs.length cv).ownBlock := World.grownBy.trans (b := (w1.alloc (.cells #[.int .i64 (P.length : Int)] 3 (0, 0))).drew) (⟨rfl, rfl, rfl, by simp, fun k hk _ => Below.heap_alloc w1 (.cells #[.int .i64 (P.length : Int)] 3 (0, 0)) k hk⟩ : w1.drew.grownBy (w1.alloc (.cells #[.int .i64 (P.length : Int)] 3 (0, 0))).drew _) hgr3
        obtain ⟨w4, hup, hG4, hgr4⟩ := HBACK.out w3 v3 (zs ++ [(P.length : Int)]) h03 hoi3 (by rw [List.length_append]; simp; omega) (by rcases hat3 with e | e; exact Or.inl e; exact Or.inr ⟨_, e, by simp⟩)
        refine hK.out _ _ (by (try dsimp only); exact ⟨cell_of_row w3 g 1 _ _ _ HP3.out, cell_of_row w3 g 2 _ _ _ HP3.out⟩) (fun hHeld => ?_)
        clear hK K
        try simp only [Act.put, List.setIfInBounds_toArray, List.set_cons_zero, List.set_cons_succ]
        refine held_call (i := 18) (by kernel_rfl) rfl (fun K hK => ?_)
        have hP4 : w4.heap[g]? = some (.cells #[.slice A T c, .slice Ap P.length cp, .map (some mb)] 156 (0, 0)) := blk_grown HP3.out hgr4 (fun k e => by cases e; omega)
        have HP4 := Lib.hid hP4
        go_simp
        refine hK.out _ _ (by (try dsimp only); exact ⟨cell_of_row w4 g 1 _ _ _ HP4.out, cell_of_row w4 g 2 _ _ _ HP4.out⟩) (fun hHeld => ?_)
        clear hK K
        try simp only [Act.put, List.setIfInBounds_toArray, List.set_cons_zero, List.set_cons_succ]
        refine wpAnyH_done (by kernel_rfl) ?_ _
        go_wp2_with fail
        go_meet
        exact Pl.five_of hgm HP4.out HG2.out HBOK.out (by omega) HX2.out HC2.out HT2.out HV2.out HK2.out HOY.out (by rw [HAT.out]; exact dints_row HOI.out) hgr3 hoi3 hG4 hgr4
      · skip
        go_simp
        skip
        refine hK.out _ _ (by (try dsimp only); exact ⟨cell_al c1 _, cell_al c2 _⟩) (fun hHeld => ?_)
        clear hK K
        try simp only [Act.put, List.setIfInBounds_toArray, List.set_cons_zero, List.set_cons_succ]
        obtain ⟨v, zs, hlk, hat, hoi, hzl, hback⟩ := World.ownsGroups.at (w := (w1.alloc (.cells #[.int .i64 (P.length : Int)] 3 (0, 0))).drew) (groups_same HG2.out (fun _ _ _ hk => blk_alloc hk _) (fun _ _ _ hk => blk_alloc hk _)) sum_keyed Tryz.underlying154 (ints_zero _) (by unfold maxLen; omega) (sum_key s)
        obtain ⟨Av, cv, rfl, hcv⟩ := own_slice hoi.1
        have HAT := Lib.hid hat
        have HOI := Lib.hid hoi
        have HBACK := Lib.hid hback
        clear hat hoi hback
        refine held_call (i := 10) (by kernel_rfl) rfl (fun K hK => ?_)
        go_simp
        skip
        refine hK.out _ _ (by (try dsimp only); exact ⟨cell_al c1 _, cell_al c2 _⟩) (fun hHeld => ?_)
        clear hK K
        try simp only [Act.put, List.setIfInBounds_toArray, List.set_cons_zero, List.set_cons_succ]
        have HOY : Hid (((w1.alloc (.cells #[.int .i64 (P.length : Int)] 3 (0, 0))).drew).ownsInts (mb + 1) 3 .i64 (.slice Av zs.length cv) zs) := Lib.hid HOI.out
        have hvlt := HOY.out.1.lt
        refine held_call (i := 17) (by kernel_rfl) rfl (fun K hK => ?_)
        refine step_append_any _ rfl (.tmp 38) (.tmp 44) 202 rfl (mb + 1) 3 i0 _ 1 8 Tryz.underlying202 hi iz0 iz1 iz2 rfl (by omega) _ zs.length (zs.map (Value.int .i64)) rfl HOY.out.1 (w1.heap.size + 1) _ _ _ [.int .i64 (P.length : Int)] rfl (reads_cells (heap_alloc_new w1 (.cells #[.int .i64 (P.length : Int)] 3 (0, 0))) rfl (by omega)).drew ?_ ?_ ?_ ?_ ?_
        · intro u hu; simp at hu; subst hu; rfl
        · simp only [maxLen]; omega
        · omega
        · simp; omega
        intro v3 w3 hown3 hgr3' hat3'
        have hgr3 : ((w1.alloc (.cells #[.int .i64 (P.length : Int)] 3 (0, 0))).drew).grownBy w3 (Value.slice Av zs.length cv).ownBlock := hgr3'
        have hat3 : v3.ownBlock = (Value.slice Av zs.length cv).ownBlock ∨ v3.ownBlock = some ((w1.alloc (.cells #[.int .i64 (P.length : Int)] 3 (0, 0))).drew).heap.size := hat3'
        clear hgr3' hat3'
        have hgm1 : g < w1.heap.size := by omega
        have hP3 : w3.heap[g]? = some (.cells #[.slice A T c, .slice Ap P.length cp, .map (some mb)] 156 (0, 0)) := blk_grown (w := (w1.alloc (.cells #[.int .i64 (P.length : Int)] 3 (0, 0))).drew) (blk_alloc HP2.out (.cells #[.int .i64 (P.length : Int)] 3 (0, 0))) hgr3 (fun k e => by have := (hvlt k e).1; omega)
        have HP3 := Lib.hid hP3
        have hoi3 := HOY.out.appended hown3 (by simp [Lit.wf, IntKind.min, IntKind.max, IntKind.signed, IntKind.bits]; omega)
        have h03 : ((w1.alloc (.cells #[.int .i64 (P.length : Int)] 3 (0, 0))).drew).grownBy w3 (Value.slice Av zs.length cv).ownBlock := hgr3
        obtain ⟨w4, hup, hG4, hgr4⟩ := HBACK.out w3 v3 (zs ++ [(P.length : Int)]) h03 hoi3 (by rw [List.length_append]; simp; omega) (by rcases hat3 with e | e; exact Or.inl e; exact Or.inr ⟨_, e, by simp⟩)
        refine hK.out _ _ (by (try dsimp only); exact ⟨cell_of_row w3 g 1 _ _ _ HP3.out, cell_of_row w3 g 2 _ _ _ HP3.out⟩) (fun hHeld => ?_)
        clear hK K
        try simp only [Act.put, List.setIfInBounds_toArray, List.set_cons_zero, List.set_cons_succ]
        refine held_call (i := 18) (by kernel_rfl) rfl (fun K hK => ?_)
        have hP4 : w4.heap[g]? = some (.cells #[.slice A T c, .slice Ap P.length cp, .map (some mb)] 156 (0, 0)) := blk_grown HP3.out hgr4 (fun k e => by cases e; omega)
        have HP4 := Lib.hid hP4
        go_simp
        refine hK.out _ _ (by (try dsimp only); exact ⟨cell_of_row w4 g 1 _ _ _ HP4.out, cell_of_row w4 g 2 _ _ _ HP4.out⟩) (fun hHeld => ?_)
        clear hK K
        try simp only [Act.put, List.setIfInBounds_toArray, List.set_cons_zero, List.set_cons_succ]
        refine wpAnyH_done (by kernel_rfl) ?_ _
        go_wp2_with fail
        go_meet
        exact Pl.five_of hgm HP4.out HG2.out HBOK.out (by omega) HX2.out HC2.out HT2.out HV2.out HK2.out HOY.out (by rw [HAT.out]; exact dints_row HOI.out) hgr3 hoi3 hG4 hgr4
    case rest =>
      obtain ⟨D', HP5, HG5, HBOK5, hz5, HX5, HC5, HT5, HV5, HK5⟩ := hcut
      have d1 := cell_of_row wc g 1 _ _ _ HP5.out
      have f1 : wc.frozen? ⟨g, 1, none⟩ = false := by simp [World.frozen?, HP5.out]
      have e0 := cell_of_row wc (w.heap.size + 1) 0 _ _ _ HC5.out
      have e1 := cell_of_row wc (w.heap.size + 1) 1 _ _ _ HC5.out
      obtain ⟨j0, hj, jz0, jz1, jz2⟩ := info_parts content_info
      have hvlt := HV5.out.lt
      have hgc : g < wc.heap.size := blk_lt HP5.out
      clear c1 c2 hi iz0 iz1 iz2
      go_wp2_with fail
      have HRD : Hid (Reads ((wc.alloc (.cells #[.int .u64 (T : Int), .int .u32 (s.size : Int)] 102 (0, 0))).drew) (wc.heap.size + 1) 2 (some ⟨wc.heap.size, 0, none⟩) 1 [.int .u64 (T : Int), .int .u32 (s.size : Int)]) := Lib.hid ⟨rfl, fun _ => ⟨_, rfl, Nat.lt_succ_self _, blkn (l := [.int .u64 (T : Int), .int .u32 (s.size : Int)]) (heap_alloc_new wc (.cells #[.int .u64 (T : Int), .int .u32 (s.size : Int)] 102 (0, 0)))⟩⟩
      have HO1 : Hid (∀ u ∈ [Value.int .u64 (T : Int), .int .u32 (s.size : Int)], u.oneCell' = true) := Lib.hid (by intro u hu; simp at hu; rcases hu with rfl | rfl <;> rfl)
      have HM1 := Lib.hid (show P.length + 1 ≤ maxLen by simp only [maxLen]; omega)
      have HM2 := Lib.hid (show (P.length + 1) * 16 ≤ 140737488355328 by omega)
      have HM3 : Hid (g + 1 ≤ ((wc.alloc (.cells #[.int .u64 (T : Int), .int .u32 (s.size : Int)] 102 (0, 0))).drew).heap.size) := Lib.hid (by simp; omega)
      have HM4 := Lib.hid (show T + s.size ≤ maxLen by simp only [maxLen]; omega)
      have HM5 := Lib.hid (show T + s.size ≤ 140737488355328 by omega)
      go_region_law (
        refine step_append_any _ rfl (.tmp 50) (.tmp 52) _ rfl (g + 1) 102 j0 _ 2 16 Tryz.underlying153 hj jz0 jz1 jz2 rfl (by omega) _ P.length (ccells 0 P) rfl (HV5.out.alloc _) (wc.heap.size + 1) _ 1 1 _ rfl HRD.out HO1.out HM1.out HM2.out HM3.out ?_
        intro v6 w6 hown6 hgr6' hat6'
        have hgr6 : ((wc.alloc (.cells #[.int .u64 (T : Int), .int .u32 (s.size : Int)] 102 (0, 0))).drew).grownBy w6 (Value.slice Ap P.length cp).ownBlock := hgr6'
        have hloc : ∀ j, v6.ownBlock = some j → j ≠ w.heap.size ∧ j ≠ w.heap.size + 1 := fun j e => by
          rcases hat6' with e2 | e2
          · have := (H3.out.lt j (e2.symm.trans e)).2; omega
          · rw [e2] at e
            have h1 : wc.heap.size + 1 = j := by simpa using e
            omega
        have hoY := HV5.out.alloc (.cells #[.int .u64 (T : Int), .int .u32 (s.size : Int)] 102 (0, 0))
        have HP6 := Lib.hid (blk_grown (w := (wc.alloc (.cells #[.int .u64 (T : Int), .int .u32 (s.size : Int)] 102 (0, 0))).drew) (blk_alloc HP5.out _) hgr6 (fun k e => by have := (hvlt k e).1; omega))
        have HX6 := Lib.hid (blk_grown (w := (wc.alloc (.cells #[.int .u64 (T : Int), .int .u32 (s.size : Int)] 102 (0, 0))).drew) (blk_alloc HX5.out _) hgr6 (fun k e => by have := (H3.out.lt k e).2; omega))
        have HC6 := Lib.hid (blk_grown (w := (wc.alloc (.cells #[.int .u64 (T : Int), .int .u32 (s.size : Int)] 102 (0, 0))).drew) (blk_alloc HC5.out _) hgr6 (fun k e => by have := (H3.out.lt k e).2; omega))
        have HG6 := Lib.hid (groups_same HG5.out (fun k cs fr hk => blk_grown (w := (wc.alloc (.cells #[.int .u64 (T : Int), .int .u32 (s.size : Int)] 102 (0, 0))).drew) (blk_alloc hk _) hgr6 (own_off hoY (blk_alloc hk _) (by decide))) (fun k es cl hk => blk_grown (w := (wc.alloc (.cells #[.int .u64 (T : Int), .int .u32 (s.size : Int)] 102 (0, 0))).drew) (blk_alloc hk _) hgr6 (own_off_map hoY (blk_alloc hk _))))
        have HT6 := Lib.hid (own_apart (w := (wc.alloc (.cells #[.int .u64 (T : Int), .int .u32 (s.size : Int)] 102 (0, 0))).drew) (HT5.out.alloc _) hoY (by decide) hgr6)
        have HV6 : Hid (w6.ownsRow (g + 1) 102 2 v6 (P.length + 1) (ccells 0 (P ++ [s]))) := Lib.hid (by
          rw [ccells_snoc, Nat.zero_add, ← HTT.out]
          exact hown6)
        have HK6 := Lib.hid ((HK5.out.trans (Pl.Kw.of_below (blk_new wc (.cells #[.int .u64 (T : Int), .int .u32 (s.size : Int)] 102 (0, 0))).drew)).trans (Pl.Kw.grown hgr6 (fun j e => ⟨by have := (hvlt j e).1; omega, own_isP hoY (fun _ _ => rfl) j e⟩) (fun j e => Or.inl e)))
        have HLOC := Lib.hid hloc
        have hz6 : wc.heap.size + 1 ≤ w6.heap.size := by have := hgr6.size; simpa using this
        obtain ⟨A6, c6, rfl, hc6⟩ := own_slice HV6.out
        have d0 := cell_of_row w6 g 0 _ _ _ HP6.out
        have d2 := cell_of_row w6 g 1 _ _ _ HP6.out
        have f0 : w6.frozen? ⟨g, 0, none⟩ = false := by simp [World.frozen?, HP6.out]
        have f2 : w6.frozen? ⟨g, 1, none⟩ = false := by simp [World.frozen?, HP6.out]
        have HP7 := Lib.hid ((set_blk (i := 1) (u := .slice A6 (P.length + 1) c6) HP6.out).trans (by rfl : _ = some (.cells #[.slice A T c, .slice A6 (P.length + 1) c6, .map (some mb)] 156 (0, 0))))
        have HT7 := Lib.hid (ownsRow_setCell HT6.out (p := ⟨g, 1, none⟩) (by simp) (.slice A6 (P.length + 1) c6))
        clear e0 e1 d1 f1 hj jz0 jz1 jz2)
      all_goals
        obtain ⟨i1, hi1, iy0, iy1, iy2⟩ := info_parts u8_info
        have htlt := HT7.out.lt
        go_wp2_with (at_builtin; go_must (refine Lib.wpList_append_own_string _ rfl (.tmp 60) (.tmp 61) 111 9 rfl (g + 1) 5 i1 Tryz.underlying111 Tryz.underlying9 hi1 iy0 iy1 iy2 _ T ((Pl.text P).map (Value.int .u8)) rfl HT7.out s rfl HM4.out HM5.out (by simp; omega) ?_))
        intro v8 w8 hown8 hgr8 _
        have hoY8 := HT7.out
        have HP8 := Lib.hid (blk_grown HP7.out hgr8 (fun k e => by have := (htlt k e).1; omega))
        have HX8 := Lib.hid (blk_grown (set_far HX6.out (by omega)) hgr8 (own_off hoY8 (set_far HX6.out (by omega)) (by decide)))
        have HC8 := Lib.hid (blk_grown (set_far HC6.out (by omega)) hgr8 (own_off hoY8 (set_far HC6.out (by omega)) (by decide)))
        have HG8 := Lib.hid (groups_same HG6.out (fun k cs fr hk => blk_grown (set_far hk (fun e => by subst e; rw [HP6.out] at hk; cases hk)) hgr8 (own_off hoY8 (set_far hk (fun e => by subst e; rw [HP6.out] at hk; cases hk)) (by decide))) (fun k es cl hk => blk_grown (set_far hk (fun e => by subst e; rw [HP6.out] at hk; cases hk)) hgr8 (own_off_map hoY8 (set_far hk (fun e => by subst e; rw [HP6.out] at hk; cases hk)))))
        have HV8 := Lib.hid (own_apart (ownsRow_setCell HV6.out (p := ⟨g, 1, none⟩) (by simp) (.slice A6 (P.length + 1) c6)) hoY8 (by decide) hgr8)
        have HK8 := Lib.hid ((HK6.out.trans (Pl.Kw.grown (gr_set w6 g 1 _) (fun j e => by cases e; exact ⟨Nat.le_refl _, fun o ho => by rw [HP6.out] at ho; cases ho; rfl⟩) (fun j e => by cases e; exact Or.inr (fun cs fr q => by rw [HP6.out] at q; cases q)))).trans (Pl.Kw.grown hgr8 (fun j e => ⟨by have := (htlt j e).1; omega, own_isP hoY8 (fun _ _ => rfl) j e⟩) (fun j e => Or.inr (fun cs fr q => own_off hoY8 q (by decide) j e rfl))))
        have HT8 := Lib.hid hown8
        obtain ⟨A8, c8, rfl, hc8⟩ := own_slice hown8
        have x0 := cell_of_row w8 g 0 _ _ _ HP8.out
        have x1 : w8.frozen? ⟨g, 0, none⟩ = false := by simp [World.frozen?, HP8.out]
        have y0 := cell_of_row w8 (w.heap.size + 1) 0 _ _ _ HC8.out
        have y1 := cell_of_row w8 (w.heap.size + 1) 1 _ _ _ HC8.out
        have z0 := cell_of_row w8 w.heap.size 0 _ _ _ HX8.out
        have z1 := cell_of_row w8 w.heap.size 1 _ _ _ HX8.out
        have z2 : w8.frozen? ⟨w.heap.size, 0, none⟩ = false := by simp [World.frozen?, HX8.out]
        have z3 : w8.frozen? ⟨w.heap.size, 1, none⟩ = false := by simp [World.frozen?, HX8.out]
        obtain ⟨n8, hn8⟩ : ∃ n8, n8 = T + s.size := ⟨_, rfl⟩
        rw [← hn8] at hc8 ⊢
        have HN8 := Lib.hid hn8
        clear hown8 hgr8 hoY8 htlt hi1 iy0 iy1 iy2 d0 d2 f0 f2 hn8
        go_wp2_with fail
        have hend := Pl.put_end (a := .int .u64 (T : Int)) (b := .int .u32 (s.size : Int)) (v8 := .slice A8 n8 c8) hgw hgm HTT.out HP8.out (by rw [HN8.out]; exact HT8.out) HV8.out HLOC.out HG8.out HBOK5.out HK8.out HX8.out
        exact bodyPost_ret (v := .agg #[.int .u64 (T : Int), .int .u32 (s.size : Int)]) (by simp [results, Tryz.results77, go_sem, z0, z1]) rfl ⟨by rw [HTT.out], hend.1, hend.2.1, fun vp hv => by
          have h1 : w.cell? ⟨g, 1, none⟩ = some (.slice Ap P.length cp) := cell_of_row w g 1 _ _ _ H1.out
          rw [h1] at hv
          cases hv
          exact hend.2.2⟩
end Go.Proofs.YtlfahmdndlmhpaaGreatDoor
