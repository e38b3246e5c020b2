/- The walk of the pool's Add. The walks of naive's Rows and Read. -/
import Derived.Test.YtlfahmdndlmhpaaGreatDoorM41
import Derived.Test.YtlfahmdndlmhpaaGreatDoorM26
import Derived.Test.YtlfahmdndlmhpaaGreatDoorLayCut
import Derived.Test.YtlfahmdndlmhpaaGreatDoorLeafJoin
import Derived.Test.YtlfahmdndlmhpaaGreatDoorM31
import Derived.Deep.QuietTactic
import Derived.BigQuiet
import Derived.Laws.Tables
import Derived.Laws.CopyOwn
namespace Go.Proofs.YtlfahmdndlmhpaaGreatDoor
open Go.RowKit Go.ChangeShapes

theorem Pl.at_set {w : World} {g x i : Nat} {P : List ByteArray} {a u : Value} (h : Pl.at_ w g P) (hP : 0 < P.length) (hne : ∀ t ∈ P, 0 < t.size) (hX : w.heap[x]? = some (.cells #[a, .int .u32 0] 102 (0, 0))) : Pl.at_ (w.setCell ⟨x, i, none⟩ u) g P := by
  obtain ⟨vt, vp, mv, h1, h2, h3, h4⟩ := h
  have hgx : g ≠ x := fun e => by rw [e, hX] at h1; cases h1
  have hp : ∀ j, vp.ownBlock = some j → j ≠ x := fun j e1 e2 => by
    subst e2
    rcases h3.2 with ⟨rfl, _⟩ | ⟨b, cap, cur, rfl, _, hh, hn, _, hc, ht⟩
    · cases e1
    · simp only [Value.ownBlock, Option.some.injEq] at e1
      subst e1
      rw [hX] at hh
      injection hh with hh
      injection hh with hh _ _
      subst hh
      simp at hc
      have hl : P.length = 1 := by omega
      obtain ⟨t, rfl⟩ : ∃ t, P = [t] := by
        match P, hl with
        | [t], _ => exact ⟨t, rfl⟩
      have h0 := hne t (by simp)
      simp [ccells] at ht
      omega
  refine ⟨vt, vp, mv, set_far h1 hgx, ?_, ?_, ?_⟩
  · refine h2.kept (gr_set w x i u) ?_
    cases hv : vt.ownBlock with
    | none => exact Or.inl rfl
    | some j => exact Or.inr (fun e => own_off h2 hX (by decide) j hv (by injection e))
  · refine h3.kept (gr_set w x i u) ?_
    cases hv : vp.ownBlock with
    | none => exact Or.inl rfl
    | some j => exact Or.inr (fun e => hp j hv (by injection e))
  · rcases h4 with h4 | ⟨mb, D, e1, e2, h5, h6⟩
    · exact Or.inl h4
    · exact Or.inr ⟨mb, D, e1, e2, groups_same h5 (fun k cs fr hk => set_far hk (fun e => by subst e; rw [hX] at hk; cases hk)) (fun k es cl hk => set_far hk (fun e => by subst e; rw [hX] at hk; cases hk)), h6⟩
def AddPost (g : Nat) (P : List ByteArray) (s : ByteArray) (w : World) (e : Ending) (w' : World) : Prop := ∃ b, e = .returned (.tuple #[.agg #[.int .u64 (Pl.pos P s : Int), .int .u32 (s.size : Int)], .bool b, .int .i64 0]) ∧ Pl.at_ w' g (Pl.add P s) ∧ Pl.Kp g w w'
set_option maxRecDepth 100000 in
set_option maxHeartbeats 4000000 in
theorem padd_any (g : Nat) (P : List ByteArray) (s : ByteArray) (w : World) (h : Pl.at_ w g P) (hnd : P.Nodup) (hne : ∀ t ∈ P, 0 < t.size ∧ t.size ≤ 65536) (ht : Pl.tot P + s.size ≤ 1000000) (hl : P.length ≤ 1000) (hs0 : 0 < s.size) (hs : s.size ≤ 65536) :
    Calls Tryz.prog 42 #[.pointer (some ⟨g, 0, none⟩), .string s] w (AddPost g P s w) := by
  have HAT := Lib.hid h
  have HND := Lib.hid hnd
  have HNE := Lib.hid hne
  have hemp : s.toList.isEmpty = false := by
    rw [List.isEmpty_eq_false_iff, ne_eq, ← List.length_eq_zero_iff, show s.toList = s.data.toList from ByteArray.toList_eq s]
    exact fun h => (by omega : ¬ s.size = 0) (by simpa using h)
  have hlong : ¬ ((s.size : Int) > 65536) := by omega
  clear h hnd hne
  by_cases hin : s ∈ P
  · have HIN := Lib.hid hin
    clear hin
    go_enter Tryz.func42, Tryz.ntmps42
    go_wp2_with fail
    refine (find_any g P s _ (Pl.at_below HAT.out (blk_new w _)) HND.out (fun t h => (HNE.out t h).1) (fun t h => (HNE.out t h).2) (by omega) (by omega) hs).mono ?_; rintro e w1 ⟨hF, hb⟩
    obtain ⟨_, rfl⟩ | ⟨hno, _⟩ := hF
    · have HX := Lib.hid (blk_keep2 hb (heap_alloc_new w (.cells #[.int .u64 0, .int .u32 0] 102)))
      have hw : Below w.heap.size w w1 := (blk_new w _).trans (hb.mono (by simp))
      have HW := Lib.hid hw
      have x0 := cell_of_row w1 w.heap.size 0 _ _ _ HX.out
      have x1 := cell_of_row w1 w.heap.size 1 _ _ _ HX.out
      have f0 : w1.frozen? ⟨w.heap.size, 0, none⟩ = false := by simp [World.frozen?, HX.out]
      have f1 : w1.frozen? ⟨w.heap.size, 1, none⟩ = false := by simp [World.frozen?, HX.out]
      have hxw : w.heap.size < w1.heap.size := blk_lt HX.out
      obtain ⟨o, ho⟩ : ∃ o, o = Pl.pos P s := ⟨_, rfl⟩
      rw [← ho]
      have HO := Lib.hid ho
      clear hb hw ho
      go_wp2_with fail
      have hW : Below w.heap.size w (((w1.setCell ⟨w.heap.size, 0, none⟩ (.int .u64 (o : Int))).setCell ⟨w.heap.size, 1, none⟩ (.int .u32 (s.size : Int))).alloc (.cells #[.int .u64 (o : Int), .int .u32 (s.size : Int)] 102 (0, 0))) := ((HW.out.setCell (Nat.le_refl _) _).setCell (Nat.le_refl _) _).alloc (by simp; omega) _
      have hB := blk_alloc ((set_blk (i := 1) (u := .int .u32 (s.size : Int)) (set_blk (i := 0) (u := .int .u64 (o : Int)) HX.out)).trans (by rfl : _ = some (.cells #[.int .u64 (o : Int), .int .u32 (s.size : Int)] 102 (0, 0)))) (.cells #[.int .u64 (o : Int), .int .u32 (s.size : Int)] 102 (0, 0))
      have y0 := cell_of_row _ w.heap.size 0 _ _ _ hB
      have y1 := cell_of_row _ w.heap.size 1 _ _ _ hB
      exact bodyPost_ret (v := .tuple #[.agg #[.int .u64 (o : Int), .int .u32 (s.size : Int)], .bool false, .int .i64 0]) (by simp [results, Tryz.results42, go_sem, y0, y1]) rfl ⟨false, by rw [HO.out], by rw [show Pl.add P s = P by unfold Pl.add; rw [if_pos HIN.out]]; exact Pl.at_below HAT.out hW, Pl.Kp.of_below hW⟩
    · exact absurd HIN.out hno
  · have HIN := Lib.hid hin
    clear hin
    go_enter Tryz.func42, Tryz.ntmps42
    go_wp2_with fail
    refine (find_any g P s _ (Pl.at_below HAT.out (blk_new w _)) HND.out (fun t h => (HNE.out t h).1) (fun t h => (HNE.out t h).2) (by omega) (by omega) hs).mono ?_; rintro e w1 ⟨hF, hb⟩
    obtain ⟨hyes, _⟩ | ⟨_, rfl⟩ := hF
    · exact absurd hyes HIN.out
    · have HX := Lib.hid (blk_keep2 hb (heap_alloc_new w (.cells #[.int .u64 0, .int .u32 0] 102)))
      have hw : Below w.heap.size w w1 := (blk_new w _).trans (hb.mono (by simp))
      have HW := Lib.hid hw
      have hxw : w.heap.size < w1.heap.size := blk_lt HX.out
      have hgw := Pl.at_lt HAT.out
      have hgw1 : g < w1.heap.size := by omega
      have HAT1 := Lib.hid (Pl.at_below HAT.out hw)
      obtain ⟨vt, vp, mv, h1, h2, h3, h4⟩ := HAT.out
      obtain ⟨Ap, cp, rfl, hcp⟩ := own_slice h3
      have HVP := Lib.hid h3.lt
      have H1 := Lib.hid ((hw.block g hgw).trans h1)
      have c1 := cell_of_row w1 g 1 _ _ _ H1.out
      clear hb hw h1 h2 h3 h4
      go_wp2_with fail
      refine (pput_any g P s _ (Pl.at_below HAT1.out (blk_new w1 _)) (by omega) (by omega) hs).mono ?_; rintro e w3 ⟨rfl, hA3, hK3, hX3⟩
      have HX3 := Lib.hid (hX3 _ (cell_of_row _ g 1 _ _ _ (blk_alloc H1.out _)) w.heap.size _ _ (blk_alloc HX.out _) (fun e => by have := (HVP.out _ e).2; omega))
      have HA3 := Lib.hid hA3
      have HK3 := Lib.hid ((Pl.Kp.of_below (HW.out.alloc (Nat.le_of_lt hxw) _)).trans hK3)
      have HPS := Lib.hid (Pl.pos_new HIN.out)
      have HNE2 : Hid (∀ t ∈ P ++ [s], 0 < t.size) := Lib.hid (fun t ht => by
        rcases List.mem_append.1 ht with h | h
        · exact (HNE.out t h).1
        · rw [List.mem_singleton] at h; subst h; exact hs0)
      have x0 := cell_of_row w3 w.heap.size 0 _ _ _ HX3.out
      have x1 := cell_of_row w3 w.heap.size 1 _ _ _ HX3.out
      have f0 : w3.frozen? ⟨w.heap.size, 0, none⟩ = false := by simp [World.frozen?, HX3.out]
      have f1 : w3.frozen? ⟨w.heap.size, 1, none⟩ = false := by simp [World.frozen?, HX3.out]
      clear hA3 hK3 hX3 c1
      go_wp2_with fail
      have hA5 := Pl.at_set (i := 1) (u := .int .u32 (s.size : Int)) (Pl.at_set (i := 0) (u := .int .u64 (Pl.tot P : Int)) HA3.out (by simp) HNE2.out HX3.out) (by simp) HNE2.out ((set_blk HX3.out).trans (by rfl))
      have hK5 := (HK3.out.trans (Pl.Kp.grown (gr_set w3 w.heap.size 0 (.int .u64 (Pl.tot P : Int))) (fun j e => by cases e; exact ⟨Nat.le_of_lt hgw, fun o ho => by rw [HX3.out] at ho; cases ho; rfl⟩))).trans (Pl.Kp.grown (gr_set _ w.heap.size 1 (.int .u32 (s.size : Int))) (fun j e => by cases e; exact ⟨Nat.le_of_lt hgw, fun o ho => by rw [set_blk HX3.out] at ho; cases ho; rfl⟩))
      exact bodyPost_ret (v := .tuple #[.agg #[.int .u64 (Pl.tot P : Int), .int .u32 (s.size : Int)], .bool true, .int .i64 0]) (by simp [results, Tryz.results42, go_sem, x0, x1]) rfl ⟨true, by rw [HPS.out], by rw [show Pl.add P s = P ++ [s] by unfold Pl.add; rw [if_neg HIN.out]]; exact hA5, hK5⟩
end Go.Proofs.YtlfahmdndlmhpaaGreatDoor
namespace Go.Proofs.YtlfahmdndlmhpaaGreatDoor
open Go.RowKit Go.Shelf

theorem wpList_world {P : Program} {ops : Array Oper} {Q : Exit → Act → World → Prop} {rest : List Oper} {a : Act} {w : World} (F : World → Prop) (hF : F w) (h : ∀ w, F w → wpList P ops Q rest a w) : wpList P ops Q rest a w := h w hF
def NrPost (L : List Ent) (d : ByteArray) (w : World) (e : Ending) (w' : World) : Prop := ∃ v, e = .returned (.tuple #[v, .string d, .int .i64 0]) ∧ w'.ownsRow w.heap.size 43 4 v L.length (ecells L) ∧ Below w.heap.size w w'
set_option maxRecDepth 100000 in
set_option maxHeartbeats 4000000 in
theorem nrows_any (s p0 p1 p2 p3 : ByteArray) (a e c lo hi : Int) (R L : List Ent) (T : List Int) (b : Nat) (hcut : Lv.Cut L b R T) (hb : b ≤ 16257) (hL : En.fine L) (hf : En.fits L) (hl : L.length ≤ 60) (hp : ∀ e ∈ L, e.2.2.2 ≠ 0)
    (hp0 : p0 = strOfNums (Dr.enc R)) (hp2 : p2 = strOfNums T) (hz1 : p1.size ≤ 100000) (hz3 : p3.size ≤ 100000)
    (h0 : 0 ≤ lo) (h1 : lo ≤ hi) (h2 : hi ≤ 26) (ha : 0 ≤ a ∧ a < 18446744073709551616) (he : 0 ≤ e ∧ e < 18446744073709551616) (hc : 0 ≤ c ∧ c < 18446744073709551616)
    (hs : Vi.nums s = Hd.bytes (Ly.secs p0 p1 p2 p3) a e c lo hi ++ (Vi.nums p0 ++ (Vi.nums p1 ++ (Vi.nums p2 ++ Vi.nums p3)))) (w : World) :
    Calls Tryz.prog 8 #[.string s] w (NrPost L p3 w) := by
  obtain ⟨hR, hRf, hRl⟩ := Lv.cut_fine hcut hL hf hl
  have hz0 : p0.size ≤ 16257 := by rw [hp0, strOfNums_size]; have := Lv.cut_root hcut; omega
  have hz2 : p2.size ≤ 3000 := by rw [hp2, strOfNums_size]; exact Lv.cut_text hcut hl
  obtain ⟨H, hH⟩ : ∃ H : Array Value, H = #[.int .u64 (127), .int .u64 ((p0.size : Int)), .int .u64 (127 + (p0.size : Int)), .int .u64 ((p1.size : Int)), .int .u64 (127 + (p0.size : Int) + (p1.size : Int)), .int .u64 ((p2.size : Int)), .int .u64 (127 + (p0.size : Int) + (p1.size : Int) + (p2.size : Int)), .int .u64 ((p3.size : Int)), .int .u64 a, .int .u64 e, .int .u64 c, .bool true, .int .u8 1, .int .u8 1, .int .u8 0, .int .i64 lo, .int .i64 hi, .int .i64 (-1800000000), .int .i64 (-850511287), .int .i64 1800000000, .int .i64 850511287, .int .i64 lo, .int .i64 0, .int .i64 0] := ⟨_, rfl⟩
  have hHs : H.size = 24 := by rw [hH]; rfl
  have hHo : H.all (·.oneCell') = true := by rw [hH]; kernel_rfl
  have HC : Hid (∀ w, Calls Tryz.prog 23 #[.string s] w (LcutPost (.agg H) (.agg #[.string p0, .string p1, .string p2, .string p3]) w)) := Lib.hid (fun w => by rw [hH]; exact lcut_any s p0 p1 p2 p3 a e c lo hi (by omega) hz1 (by omega) hz3 h0 h1 h2 ha he hc hs w)
  have HD := Lib.hid (fun w => ddec_any p0 R hp0 hR hRf (by omega) (by omega) w)
  have HJ := Lib.hid (fun A cap B w hr hB => join_any A cap R L T b p2 B w hcut hL hf hl hp hp2 hr hB)
  clear hcut hL hf hl hp hp0 hp2 hz0 hz1 hz2 hz3 h0 h1 h2 ha he hc hs hR hRf hH
  go_enter Tryz.func8, Tryz.ntmps8
  go_wp2_with fail
  refine (HC.out _).mono ?_; rintro e w1 ⟨rfl, hb1⟩
  have HB1 := Lib.hid hb1
  clear hb1
  go_wp2_with (refine wpList_store_row rfl 65 (.tmp 5) (.tmp 14) rfl w1.heap.size H rfl rfl _ _ (blk_alloc (heap_alloc_new w1 _) _) (by rw [hHs] <;> kernel_rfl) (by rw [hHs] <;> rfl) hHo ?_; refine wpList_store_row rfl 67 (.tmp 6) (.tmp 15) rfl (w1.heap.size + 1) #[.string p0, .string p1, .string p2, .string p3] rfl rfl _ _ ((setRow_other _ w1.heap.size (w1.heap.size + 1) H (by omega)).trans (heap_at (by simp))) (by kernel_rfl) rfl (by kernel_rfl) ?_; refine wpList_world (fun W => W.heap[w1.heap.size + 1]? = some (.cells #[.string p0, .string p1, .string p2, .string p3] 67 (0, 0)) ∧ Below w1.heap.size w1 W) ⟨setRow_heap _ _ _ _ _ _ ((setRow_other _ w1.heap.size (w1.heap.size + 1) H (by omega)).trans (heap_at (by simp))), below_setRow (below_setRow (by exact (by repeat (first | with_reducible exact Below.refl _ _ | with_reducible assumption | with_reducible refine Below.setCell ?_ (by first | (simp; done) | (simp; omega) | omega) _ | with_reducible refine Below.alloc ?_ (by first | exact Nat.le_refl _ | (simp; done) | (simp; omega) | omega) _ | with_reducible refine Below.drew ?_))) (Nat.le_refl _) _) (Nat.le_succ _) _⟩ ?_; rintro W2 ⟨hP2, hb2⟩; obtain ⟨c0, c1, c2, c3⟩ := blk_cells4 hP2; have HP2 := Lib.hid hP2; have HB2 := Lib.hid hb2; clear hP2 hb2)
  refine (HD.out _).mono ?_; rintro e w3 ⟨v3, rfl, hO3, hb3⟩
  obtain ⟨A3, k3, rfl, _⟩ := own_slice hO3
  have HP3 := Lib.hid (blk_keep2 hb3 HP2.out)
  have HR3 := Lib.hid (Reads.of_own hO3)
  have HW3 := Lib.hid (bthen (bthen HB1.out HB2.out) hb3)
  clear c0 c1 c2 c3 hO3 hb3
  obtain ⟨c0, c1, c2, c3⟩ := blk_cells4 HP3.out
  go_wp2_with fail
  refine (HJ.out A3 k3 w3.heap.size w3 HR3.out (Nat.le_refl _)).mono ?_; rintro e w4 ⟨v4, rfl, hO4, hb4⟩
  have hP4 := blk_keep2 hb4 HP3.out
  have hzz := HW3.out.size
  have HW4 := Lib.hid (bthen HW3.out hb4)
  have HO4 := Lib.hid (ownsRow_base hO4 (base' := w.heap.size) (by omega))
  clear c0 c1 c2 c3 hO4 hb4
  obtain ⟨c0, c1, c2, c3⟩ := blk_cells4 hP4
  clear hP4
  go_wp2_with fail
  go_quiet (fail)
  all_goals
    go_wp2_with fail
    go_ret3
    exact ⟨_, rfl, HO4.out, bdraws HW4.out _⟩
def one : List Ent := [(0, 0, 1, 1)]
set_option maxRecDepth 100000 in
set_option maxHeartbeats 1000000 in
theorem nread_one (s : ByteArray) (w : World) (h : ∀ w, Calls Tryz.prog 8 #[.string s] w (NrPost one ⟨#[120]⟩ w)) : Calls Tryz.prog 12 #[.string s] w (OfPost w) := by
  have HR := Lib.hid h
  clear h
  go_enter Tryz.func12, Tryz.ntmps12
  go_wp2_with fail
  refine (HR.out _).mono ?_; rintro e w1 ⟨v, rfl, hO, hb1⟩
  have HX1 := Lib.hid (blk_one hb1).1
  have hz1 := (blk_one hb1).2.1
  have HW1 := Lib.hid (blk_one hb1).2.2
  obtain ⟨g1, k1, rfl, _, _⟩ := hO.form (by decide)
  have HB := Lib.hid (fun w' => back_one g1 k1 w')
  have HR1 := Lib.hid (Reads.of_own hO)
  clear hO hb1
  go_wp2_with fail
  refine (HB.out w1 HR1.out).mono ?_; rintro e w7 ⟨g7, c7, rfl, hO7, hb7⟩
  have HX7 := Lib.hid (blk_keep2 hb7 HX1.out)
  have z6 : w7.frozen? ⟨w.heap.size, 0, none⟩ = false := by simp [World.frozen?, HX7.out]
  have z7 := cell_of_row w7 w.heap.size 0 _ _ _ HX7.out
  have HW7 := Lib.hid (bthen HW1.out hb7)
  have HO7 := Lib.hid hO7
  clear hO7 hb7
  go_wp2_with fail
  have hb8 : (w7.setCell ⟨w.heap.size, 0, none⟩ (.slice (some ⟨g7, 0, none⟩) 1 c7)).heap[w.heap.size]? = some (.cells #[.slice (some ⟨g7, 0, none⟩) 1 c7] 27 (0, 0)) := set_blk HX7.out
  have hO9 := ownsRow_setCell HO7.out (p := ⟨w.heap.size, 0, none⟩) (show w.heap.size < w1.heap.size by omega) (.slice (some ⟨g7, 0, none⟩) 1 c7)
  have hO10 := ownsRow_base hO9 (base' := w.heap.size) (by omega)
  have hc8 := cell_of_row _ w.heap.size 0 _ _ _ hb8
  exact bodyPost_ret (v := .tuple #[.agg #[.slice (some ⟨g7, 0, none⟩) 1 c7], .int .i64 0]) (by simp [results, Tryz.results12, go_sem, hc8]) rfl ⟨g7, c7, rfl, hO10, HW7.out.setCell (by simp) _⟩
end Go.Proofs.YtlfahmdndlmhpaaGreatDoor
