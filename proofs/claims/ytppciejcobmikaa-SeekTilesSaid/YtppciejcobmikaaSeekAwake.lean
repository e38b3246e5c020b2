/- The small example of layer 9. -/
import Derived.Test.YtppciejcobmikaaSeekRange
import Derived.Test.YtppciejcobmikaaSeekFind
import Derived.Test.YtppciejcobmikaaSeekLeaves
import Derived.Test.YtppciejcobmikaaEntSame
import Derived.Test.YtppciejcobmikaaHeld
namespace Go.Proofs.Ytppciejcobmikaa
open Go.RowKit Go.Shelf

theorem reads_blk' {w : World} {g : Nat} {cs : Array Value} {t : TypeId} {L : List Ent} (h : w.heap[g]? = some (.cells cs t (0, 0))) (hc : cs.toList = ecells L) : Reads w w.heap.size 4 (some ⟨g, 0, none⟩) L.length (ecells L) := by
  refine ⟨ecells_len L, fun _ => ⟨_, rfl, blk_lt h, fun j u hu => ?_⟩⟩
  have e : (⟨g, 0, none⟩ : Addr).add j = ⟨g, j, none⟩ := by unfold Addr.add; split <;> simp_all
  rw [e, cell_of_row w g j cs t (0, 0) h, ← hu, ← hc]
  simp
theorem blk_cells8' {w : World} {g : Nat} {a b c d a' b' c' d' : Value} {t : TypeId} (h : w.heap[g]? = some (.cells #[a, b, c, d, a', b', c', d'] t (0, 0))) :
    (w.cell? ⟨g, 0, none⟩ = some a ∧ w.cell? ⟨g, 1, none⟩ = some b ∧ w.cell? ⟨g, 2, none⟩ = some c ∧ w.cell? ⟨g, 3, none⟩ = some d) ∧ w.cell? ⟨g, 4, none⟩ = some a' ∧ w.cell? ⟨g, 5, none⟩ = some b' ∧ w.cell? ⟨g, 6, none⟩ = some c' ∧ w.cell? ⟨g, 7, none⟩ = some d' := by
  refine ⟨⟨?_, ?_, ?_, ?_⟩, ?_, ?_, ?_, ?_⟩ <;> exact cell_of_row w g _ _ _ _ h
def Sk.ex : List Ent := [(5, 0, 1, 3), (9, 0, 2, 0)]
theorem exS_fits : En.fits Sk.ex := by intro e he; simp [Sk.ex] at he; rcases he with rfl | rfl <;> simp [En.good, En.fit]
theorem ex_find7 {e : Ending} (h : FindR Sk.ex 7 e) : e = .returned (.tuple #[.agg #[.int .u64 5, .int .u64 0, .int .u32 1, .int .u32 3], .bool true]) :=
  h.trans (by rw [show Sk.f Sk.ex 7 = (5, 0, 1, 3) by decide +kernel, show Sk.is Sk.ex 7 = true by decide +kernel])
theorem ex_find8 {e : Ending} (h : FindR Sk.ex 8 e) : e = .returned (.tuple #[.agg #[.int .u64 0, .int .u64 0, .int .u32 0, .int .u32 0], .bool false]) :=
  h.trans (by rw [show Sk.f Sk.ex 8 = (0, 0, 0, 0) by decide +kernel, show Sk.is Sk.ex 8 = false by decide +kernel])
theorem ex_find99 {e : Ending} (h : FindR Sk.ex 99 e) : e = .returned (.tuple #[.agg #[.int .u64 9, .int .u64 0, .int .u32 2, .int .u32 0], .bool true]) :=
  h.trans (by rw [show Sk.f Sk.ex 99 = (9, 0, 2, 0) by decide +kernel, show Sk.is Sk.ex 99 = true by decide +kernel])
theorem ex_own : Sk.own Sk.ex = Sk.ex := by decide +kernel
def exCnt : List (Sk.T Sk.ex) → Int := List.foldl (fun n x => if x.1.1 = 5 + n then n + 1 else n) 0
theorem exCnt_snoc (pre : List (Sk.T Sk.ex)) (x : Sk.T Sk.ex) : exCnt (pre ++ [x]) = if x.1.1 = 5 + exCnt pre then exCnt pre + 1 else exCnt pre := by
  unfold exCnt; rw [List.foldl_append]; rfl
theorem exCnt_fold (l : List (Sk.T Sk.ex)) : ∀ s : Int, s ≤ l.foldl (fun n x => if x.1.1 = 5 + n then n + 1 else n) s ∧ l.foldl (fun n x => if x.1.1 = 5 + n then n + 1 else n) s ≤ s + l.length := by
  induction l with
  | nil => intro s; simp
  | cons x l ih =>
    intro s
    rw [List.foldl_cons, List.length_cons]
    have h := ih (if x.1.1 = 5 + s then s + 1 else s)
    revert h
    generalize List.foldl _ _ l = q
    split <;> (intro h; omega)
theorem exCnt_bd (pre : List (Sk.T Sk.ex)) : 0 ≤ exCnt pre ∧ exCnt pre ≤ pre.length := by
  have := exCnt_fold pre 0
  unfold exCnt; omega
theorem exCnt_all : exCnt (Sk.ts Sk.ex).attach = 3 := by decide +kernel
theorem ex_at4 : Sk.at Sk.ex 4 = -1 := by decide +kernel
theorem ex_at8 : Sk.at Sk.ex 8 = 0 := by decide +kernel
theorem ex_lv : (Sk.lv Sk.ex).length = 1 := by decide +kernel
theorem reads_blk2 {w : World} {g B : Nat} {cs : Array Value} {t : TypeId} {L : List Ent} (h : w.heap[g]? = some (.cells cs t (0, 0))) (hB : g < B) (hc : cs.toList = ecells L) : Reads w B 4 (some ⟨g, 0, none⟩) L.length (ecells L) := by
  obtain ⟨h1, h2⟩ := reads_blk' h hc
  exact ⟨h1, fun hn => by obtain ⟨ad, e, _, hcl⟩ := h2 hn; injection e with e; subst e; exact ⟨_, rfl, hB, hcl⟩⟩
theorem exCells {w' : World} {pa pb p2 p6 p8 : Nat} {s n : Value} {t t' : TypeId} (hA : w'.heap[pa]? = some (.cells #[.int .u64 5, .int .u64 0, .int .u32 1, .int .u32 3, .int .u64 9, .int .u64 0, .int .u32 2, .int .u32 0] 26 (0, 0))) (hB : w'.heap[pb]? = some (.cells #[s] t (0, 0))) (h2 : w'.heap[p2]? = some (.cells #[.int .u64 5, .int .u64 0, .int .u32 1, .int .u32 3] 26 (0, 0))) (h6 : w'.heap[p6]? = some (.cells #[.int .u64 9, .int .u64 0, .int .u32 2, .int .u32 0] 26 (0, 0))) (h8 : w'.heap[p8]? = some (.cells #[n] t' (0, 0))) :
    w'.cell? ⟨pa, 0, none⟩ = some (.int .u64 5) ∧ w'.cell? ⟨pa, 1, none⟩ = some (.int .u64 0) ∧ w'.cell? ⟨pa, 2, none⟩ = some (.int .u32 1) ∧ w'.cell? ⟨pa, 3, none⟩ = some (.int .u32 3) ∧ w'.cell? ⟨pa, 4, none⟩ = some (.int .u64 9) ∧ w'.cell? ⟨pa, 5, none⟩ = some (.int .u64 0) ∧ w'.cell? ⟨pa, 6, none⟩ = some (.int .u32 2) ∧ w'.cell? ⟨pa, 7, none⟩ = some (.int .u32 0) ∧ w'.cell? ⟨pb, 0, none⟩ = some (s) ∧ w'.cell? ⟨p2, 0, none⟩ = some (.int .u64 5) ∧ w'.cell? ⟨p2, 1, none⟩ = some (.int .u64 0) ∧ w'.cell? ⟨p2, 2, none⟩ = some (.int .u32 1) ∧ w'.cell? ⟨p2, 3, none⟩ = some (.int .u32 3) ∧ w'.cell? ⟨p6, 0, none⟩ = some (.int .u64 9) ∧ w'.cell? ⟨p6, 1, none⟩ = some (.int .u64 0) ∧ w'.cell? ⟨p6, 2, none⟩ = some (.int .u32 2) ∧ w'.cell? ⟨p6, 3, none⟩ = some (.int .u32 0) ∧ w'.cell? ⟨p8, 0, none⟩ = some (n) := by
  refine ⟨?_, ?_, ?_, ?_, ?_, ?_, ?_, ?_, ?_, ?_, ?_, ?_, ?_, ?_, ?_, ?_, ?_, ?_⟩ <;> first | exact cell_of_row _ _ _ _ _ _ hA | exact cell_of_row _ _ _ _ _ _ hB | exact cell_of_row _ _ _ _ _ _ h2 | exact cell_of_row _ _ _ _ _ _ h6 | exact cell_of_row _ _ _ _ _ _ h8
theorem ex_len : (Sk.ts Sk.ex).length = 3 := by decide +kernel
theorem ex_mem (x : Sk.T Sk.ex) : (5 ≤ x.1.1 ∧ x.1.1 < 8) ∧ x.1.2 = (5, 0, 1, 3) := by
  obtain ⟨x, hx⟩ := x
  obtain ⟨h1, h2, h3, h4⟩ := Sk.ts_mem hx
  simp only [Sk.ex, List.mem_cons, List.not_mem_nil, or_false] at h1
  rcases h1 with h1 | h1
  · rw [h1] at h3 h4
    exact ⟨⟨h3, by simpa using h4⟩, h1⟩
  · rw [h1] at h2; simp at h2

def OnlyNormal (Q : Exit → Act → World → Prop) : Exit → Act → World → Prop
  | .normal, a, w => Q .normal a w
  | _, _, _ => False
theorem wp_only {P : Program} {c : Code} {Q : Exit → Act → World → Prop} {a : Act} {w : World} (h : c.wp P (OnlyNormal Q) a w) : c.wp P Q a w :=
  wp_mono h fun e _ _ hq => by cases e <;> first | exact hq | exact hq.elim
theorem only_in {Q : Exit → Act → World → Prop} {a : Act} {w : World} (h : Q .normal a w) : OnlyNormal Q .normal a w := h
theorem run_neq_func_nil {P : Program} {ps rs : Array TypeId} {vd : Bool} (w : World) {t : TypeId} (fn : Fn) (fi ca : Array Value) (ht : P.underlying t = some (.func ps rs vd)) : (binOp .neq t (.func fn fi ca) .nilFunc).run P w = .ok (.bool true) w := by
  have h : ∀ d : Nat, (Op.equalIn (d + 1) t (.func fn fi ca) .nilFunc).run P w = .ok false w := fun d => by
    simp [Op.equalIn, run_underlying ht]
  simp only [binOp]
  simp [Op.equal, Op.maxDepth, h 9999]

attribute [local go_sem] Oper.semAt_some
set_option maxRecDepth 100000 in
set_option maxHeartbeats 4000000 in
theorem awake09 (w : World) :
    Calls Try.prog 34 #[] w fun e w' => e = .returned (.bool true) ∧ Below w.heap.size w w' := by
  refine calls_of_wp_marks Try.func34 rfl ?_
  simp only [Try.ntmps34, List.size_toArray, List.length_nil, Nat.reduceSub, Array.replicate_succ, Array.replicate_zero, List.push_toArray, List.append_toArray, List.nil_append, List.cons_append]
  go_wp2_with fail
  have HA := Lib.hid (blk_alloc (heap_alloc_new w (.cells #[.int .u64 5, .int .u64 0, .int .u32 1, .int .u32 3, .int .u64 9, .int .u64 0, .int .u32 2, .int .u32 0] 26)) (.cells #[.slice (some ⟨w.heap.size, 0, none⟩) 2 2] 37))
  have HB := Lib.hid (heap_alloc_new (w.alloc (.cells #[.int .u64 5, .int .u64 0, .int .u32 1, .int .u32 3, .int .u64 9, .int .u64 0, .int .u32 2, .int .u32 0] 26)) (.cells #[.slice (some ⟨w.heap.size, 0, none⟩) 2 2] 37))
  have hw : Below w.heap.size w ((w.alloc (.cells #[.int .u64 5, .int .u64 0, .int .u32 1, .int .u32 3, .int .u64 9, .int .u64 0, .int .u32 2, .int .u32 0] 26)).alloc (.cells #[.slice (some ⟨w.heap.size, 0, none⟩) 2 2] 37)) := bthen (blk_new _ _) (blk_new _ _)
  rw [World.size_alloc] at HB
  have hb0 : w.heap.size + 1 < ((w.alloc (.cells #[.int .u64 5, .int .u64 0, .int .u32 1, .int .u32 3, .int .u64 9, .int .u64 0, .int .u32 2, .int .u32 0] 26)).alloc (.cells #[.slice (some ⟨w.heap.size, 0, none⟩) 2 2] 37)).heap.size := by simp
  refine (find_any _ 2 2 Sk.ex _ _ 7 (reads_blk' HA.out rfl) rfl exS_fits (Nat.le_refl _) (by omega)).mono ?_
  rintro e wa ⟨he, hb⟩
  obtain rfl := ex_find7 he
  have hw := bthen2 hb hw
  clear he
  have HA := Lib.hid (blk_keep2 hb HA.out)
  have HB := Lib.hid (blk_keep2 hb HB.out)
  clear hb
  have b0 : wa.cell? ⟨w.heap.size + 1, 0, none⟩ = some (.slice (some ⟨w.heap.size, 0, none⟩) 2 2) := cell_of_row wa (w.heap.size + 1) 0 _ _ _ HB.out
  have bz := blk_lt HB.out
  go_wp2_with fail
  clear b0 bz
  have HA := Lib.hid (blk_alloc HA.out (.cells #[.int .u64 5, .int .u64 0, .int .u32 1, .int .u32 3] 26))
  have HB := Lib.hid (blk_alloc HB.out (.cells #[.int .u64 5, .int .u64 0, .int .u32 1, .int .u32 3] 26))
  have H2 := Lib.hid (heap_alloc_new wa (.cells #[.int .u64 5, .int .u64 0, .int .u32 1, .int .u32 3] 26))
  have hw := bthen2 (blk_new wa (.cells #[.int .u64 5, .int .u64 0, .int .u32 1, .int .u32 3] 26)) hw
  refine (find_any _ 2 2 Sk.ex _ _ 8 (reads_blk' HA.out rfl) rfl exS_fits (Nat.le_refl _) (by omega)).mono ?_
  rintro e wb ⟨he, hb⟩
  obtain rfl := ex_find8 he
  have hw := bthen2 hb hw
  clear he
  have HA := Lib.hid (blk_keep2 hb HA.out)
  have HB := Lib.hid (blk_keep2 hb HB.out)
  have H2 := Lib.hid (blk_keep2 hb H2.out)
  clear hb
  have b0 : wb.cell? ⟨w.heap.size + 1, 0, none⟩ = some (.slice (some ⟨w.heap.size, 0, none⟩) 2 2) := cell_of_row wb (w.heap.size + 1) 0 _ _ _ HB.out
  have bz := blk_lt HB.out
  go_wp2_with fail
  clear b0 bz
  have HA := Lib.hid (blk_alloc HA.out (.cells #[.int .u64 0, .int .u64 0, .int .u32 0, .int .u32 0] 26))
  have HB := Lib.hid (blk_alloc HB.out (.cells #[.int .u64 0, .int .u64 0, .int .u32 0, .int .u32 0] 26))
  have H2 := Lib.hid (blk_alloc H2.out (.cells #[.int .u64 0, .int .u64 0, .int .u32 0, .int .u32 0] 26))
  have H4 := Lib.hid (heap_alloc_new wb (.cells #[.int .u64 0, .int .u64 0, .int .u32 0, .int .u32 0] 26))
  have hw := bthen2 (blk_new wb (.cells #[.int .u64 0, .int .u64 0, .int .u32 0, .int .u32 0] 26)) hw
  refine (find_any _ 2 2 Sk.ex _ _ 99 (reads_blk' HA.out rfl) rfl exS_fits (Nat.le_refl _) (by omega)).mono ?_
  rintro e wc ⟨he, hb⟩
  obtain rfl := ex_find99 he
  have hw := bthen2 hb hw
  clear he
  have HA := Lib.hid (blk_keep2 hb HA.out)
  have HB := Lib.hid (blk_keep2 hb HB.out)
  have H2 := Lib.hid (blk_keep2 hb H2.out)
  have H4 := Lib.hid (blk_keep2 hb H4.out)
  clear hb
  have b0 : wc.cell? ⟨w.heap.size + 1, 0, none⟩ = some (.slice (some ⟨w.heap.size, 0, none⟩) 2 2) := cell_of_row wc (w.heap.size + 1) 0 _ _ _ HB.out
  have bz := blk_lt HB.out
  have b9 : ((wc.alloc (.cells #[.int .u64 9, .int .u64 0, .int .u32 2, .int .u32 0] 26)).alloc (.cells #[.int .i64 0] 3)).cell? ⟨w.heap.size + 1, 0, none⟩ = some (.slice (some ⟨w.heap.size, 0, none⟩) 2 2) := cell_of_row _ (w.heap.size + 1) 0 _ _ _ (blk_alloc (blk_alloc HB.out _) _)
  go_wp2_with fail
  clear b0 bz
  clear b9
  have hzw := blk_lt HB.out
  have hzw2 := blk_lt H2.out
  have HA := Lib.hid (blk_alloc HA.out (.cells #[.int .u64 9, .int .u64 0, .int .u32 2, .int .u32 0] 26))
  have HB := Lib.hid (blk_alloc HB.out (.cells #[.int .u64 9, .int .u64 0, .int .u32 2, .int .u32 0] 26))
  have H2 := Lib.hid (blk_alloc H2.out (.cells #[.int .u64 9, .int .u64 0, .int .u32 2, .int .u32 0] 26))
  have H4 := Lib.hid (blk_alloc H4.out (.cells #[.int .u64 9, .int .u64 0, .int .u32 2, .int .u32 0] 26))
  have H6 := Lib.hid (heap_alloc_new wc (.cells #[.int .u64 9, .int .u64 0, .int .u32 2, .int .u32 0] 26))
  have hw := bthen2 (blk_new wc (.cells #[.int .u64 9, .int .u64 0, .int .u32 2, .int .u32 0] 26)) hw
  have HA := Lib.hid (blk_alloc HA.out (.cells #[.int .i64 0] 3))
  have HB := Lib.hid (blk_alloc HB.out (.cells #[.int .i64 0] 3))
  have H2 := Lib.hid (blk_alloc H2.out (.cells #[.int .i64 0] 3))
  have H4 := Lib.hid (blk_alloc H4.out (.cells #[.int .i64 0] 3))
  have H6 := Lib.hid (blk_alloc H6.out (.cells #[.int .i64 0] 3))
  have H8 := Lib.hid (heap_alloc_new (wc.alloc (.cells #[.int .u64 9, .int .u64 0, .int .u32 2, .int .u32 0] 26)) (.cells #[.int .i64 0] 3))
  have hw := bthen2 (blk_new (wc.alloc (.cells #[.int .u64 9, .int .u64 0, .int .u32 2, .int .u32 0] 26)) (.cells #[.int .i64 0] 3)) hw
  rw [World.size_alloc] at H8
  have hzz : w.heap.size + 1 < wc.heap.size := hzw
  have hsz : ((wc.alloc (.cells #[.int .u64 9, .int .u64 0, .int .u32 2, .int .u32 0] 26)).alloc (.cells #[.int .i64 0] 3)).heap.size = wc.heap.size + 2 := by simp
  refine (tiles_any _ 2 2 Sk.ex _ _ (reads_blk' HA.out rfl) rfl exS_fits (Nat.le_refl _) (by omega)).mono ?_
  intro e wd hp
  obtain ⟨v, Bs, he, t1, t2, t3, t4, hb⟩ := hp
  subst he
  rw [ex_own, hsz] at t4
  rw [hsz] at t1
  have hw := bthen2 hb hw
  have HA := Lib.hid (blk_keep2 hb HA.out)
  have HB := Lib.hid (blk_keep2 hb HB.out)
  have H2 := Lib.hid (blk_keep2 hb H2.out)
  have H4 := Lib.hid (blk_keep2 hb H4.out)
  have H6 := Lib.hid (blk_keep2 hb H6.out)
  have H8 := Lib.hid (blk_keep2 hb H8.out)
  have hsD : wc.heap.size + 2 ≤ wd.heap.size := by rw [← hsz]; exact hb.size
  clear hb hsz
  obtain ⟨gb, hgb, hseq⟩ := tiles_stops Fence.wide 4 trivial rfl (by omega) Bs (wc.heap.size + 2) v Sk.ex wd t2 t3 t4 (by decide) exS_fits (by decide)
  clear t3 t4
  have HQ := Lib.hid hseq
  clear hseq
  have hnil := fun (w : World) (ca : Array Value) => run_neq_func_nil (P := Try.prog) w (.func 66) #[] ca Try.underlying59
  go_wp2_with fail
  clear hnil
  refine wp_range_tiles 10 11 (Bs := Bs) (gb := gb) Sk.ex rfl HQ.out
    (fun pre W => ((W.heap[wc.heap.size + 1]? = some (.cells #[.int .i64 (exCnt pre)] 3 (0, 0)) ∧ KeptBut (· = wc.heap.size + 1) wd W) ∧ Below w.heap.size w W) ∧ wd.heap.size ≤ W.heap.size)
    (fun _ _ _ => False) ?hI (fun _ _ _ _ _ hs _ _ => hs) ?h0 ?assign ?hIa ?body ?done ?stop
  case hI => exact OwnFrom.and (OwnFrom.and (OwnFrom.and (Own.from (boxed_own (wc.heap.size + 1) 3 (fun pre => .int .i64 (exCnt pre))) _) (keptBut_own _ _ _)) (ownFrom_below (Nat.le_refl _) hw.size)) (fun s X Y row hs hg hr => Nat.le_trans hs hg.size)
  case h0 => exact ⟨⟨⟨H8.out, KeptBut.refl _ _⟩, hw⟩, Nat.le_refl _⟩
  case hIa =>
    rintro pre W o ⟨⟨⟨h1, h2⟩, h3⟩, h4⟩
    exact ⟨h4, ⟨⟨blk_alloc h1 o, h2.below (blk_new W o)⟩, bthen2 (blk_new W o) h3⟩, Nat.le_trans h4 (blk_new W o).size⟩
  case assign =>
    intro l pre x W K hi hs hK
    gi_wp2
    exact hK
  case stop =>
    rintro D c pre W _ _ h _
    exact h.elim
  case body =>
    rintro l pre x Bx W ⟨⟨⟨h1, h2⟩, h3⟩, h4⟩ hBx hb hlen
    rw [ex_len] at hlen
    obtain ⟨⟨m1, m2⟩, m3⟩ := ex_mem x
    have hc := exCnt_bd pre
    have hs := exCnt_snoc pre x
    obtain ⟨c, hcc⟩ : ∃ c, c = exCnt pre := ⟨_, rfl⟩
    rw [← hcc] at h1 hc hs
    obtain ⟨id, hid⟩ : ∃ id, id = x.1.1 := ⟨_, rfl⟩
    rw [← hid] at m1 m2 hs
    rw [m3] at hb
    have hb' : W.heap[Bx]? = some (.cells #[.int .u64 5, .int .u64 0, .int .u32 1, .int .u32 3] 26 (0, 0)) := hb
    obtain ⟨d0, d1, d2, d3⟩ := blk_cells4 hb'
    have hA := h2 _ _ (by have := blk_lt HA.out; dsimp only; omega) HA.out rfl
    have hB := h2 _ _ (by dsimp only; omega) HB.out rfl
    obtain ⟨⟨a0, a1, a2, a3⟩, a4, a5, a6, a7⟩ := blk_cells8' hA
    have b0 : W.cell? ⟨w.heap.size + 1, 0, none⟩ = some (.slice (some ⟨w.heap.size, 0, none⟩) 2 2) := cell_of_row W (w.heap.size + 1) 0 _ _ _ hB
    have n0 : W.cell? ⟨wc.heap.size + 1, 0, none⟩ = some (.int .i64 c) := cell_of_row W (wc.heap.size + 1) 0 _ _ _ h1
    have f0 : W.frozen? ⟨wc.heap.size + 1, 0, none⟩ = false := by simp [World.frozen?, h1]
    have hq : ∀ w : World, (binOp .eql 26 (.agg #[.int .u64 5, .int .u64 0, .int .u32 1, .int .u32 3]) (.agg #[.int .u64 5, .int .u64 0, .int .u32 1, .int .u32 3])).run Try.prog w = .ok (.bool true) w := fun w => by rw [eq_ent]; rfl
    have G1 := Lib.hid h1
    have G2 := Lib.hid h2
    have GM := Lib.hid m3
    have GC := Lib.hid hcc
    have GI := Lib.hid hid
    have GS := Lib.hid hs
    have hmx : Try.prog.follows .mixedOrders = true := by kernel_rfl
    unfold roundAct
    simp only [List.setIfInBounds_toArray, List.set_cons_zero, List.set_cons_succ, ← hid, m3]
    clear h1 h2 m3 hcc hid hs hb hb' hA hB
    have k1 : IntKind.u64.wrap (5 + c) = 5 + c := u64w (by omega) (by omega)
    have k2 : wrap64 (5 + c) = 5 + c := i64w (by omega) (by omega)
    have k3 : IntKind.i64.wrap (5 + c) = 5 + c := IntWalk.i64_in _ (by omega)
    by_cases hx : id = 5 + c
    · have q1 : (id == 5 + c) = true := by simpa using hx
      have HX := Lib.hid hx
      clear hx
      gi_wp2
      gi_region_with_o (fail)
      all_goals
        clear k1 k2 k3
        gi_wp2
        refine ⟨((KeepsOthers.setCell W ⟨wc.heap.size + 1, 0, none⟩ (.int .i64 (c + 1))).trans (KeepsOthers.drew _)).from _, Kpt.trans (Kpt.setCell W _ (by dsimp only; omega) (by dsimp only; omega)) (fun _ _ _ h _ => h), ⟨⟨?_, ?_⟩, ?_⟩, ?_⟩
        · rw [GS.out, if_pos HX.out]
          exact Boxed.set _ G1.out
        · exact KeptBut.set G2.out _ rfl
        · exact (h3.setCell (by dsimp only; omega) _).drew
        · simpa using h4
    · have q1 : (id == 5 + c) = false := by simpa using hx
      have HX := Lib.hid hx
      clear hx
      gi_wp2
      gi_region_with_o (fail)
      all_goals
        clear k1 k2 k3
        gi_wp2
        refine ⟨(KeepsOthers.drew W).from _, (fun _ _ _ h _ => h), ⟨⟨?_, G2.out⟩, Below.drew h3⟩, h4⟩
        rw [GS.out, if_neg HX.out]
        exact G1.out
  case done =>
    rintro D W hD ⟨⟨⟨h1, h2⟩, h3⟩, h4⟩ hK
    rw [exCnt_all] at h1
    have HA := Lib.hid (h2 _ _ (by have := blk_lt HA.out; dsimp only; omega) HA.out rfl)
    have HB := Lib.hid (h2 _ _ (by dsimp only; omega) HB.out rfl)
    have H2 := Lib.hid (h2 _ _ (by dsimp only; omega) H2.out rfl)
    have H6 := Lib.hid (h2 _ _ (by dsimp only; omega) H6.out rfl)
    have H8 := Lib.hid h1
    have HK := Lib.hid hK
    have hw := h3
    clear h1 h2 h3 hK
    go_wp2_with fail
    refine wp_only ?_
    refine wp_region_held_drew (S := (fun w' => w'.cell? ⟨w.heap.size, 0, none⟩ = some (.int .u64 5) ∧ w'.cell? ⟨w.heap.size, 1, none⟩ = some (.int .u64 0) ∧ w'.cell? ⟨w.heap.size, 2, none⟩ = some (.int .u32 1) ∧ w'.cell? ⟨w.heap.size, 3, none⟩ = some (.int .u32 3) ∧ w'.cell? ⟨w.heap.size, 4, none⟩ = some (.int .u64 9) ∧ w'.cell? ⟨w.heap.size, 5, none⟩ = some (.int .u64 0) ∧ w'.cell? ⟨w.heap.size, 6, none⟩ = some (.int .u32 2) ∧ w'.cell? ⟨w.heap.size, 7, none⟩ = some (.int .u32 0) ∧ w'.cell? ⟨w.heap.size + 1, 0, none⟩ = some (.slice (some ⟨w.heap.size, 0, none⟩) 2 2) ∧ w'.cell? ⟨wa.heap.size, 0, none⟩ = some (.int .u64 5) ∧ w'.cell? ⟨wa.heap.size, 1, none⟩ = some (.int .u64 0) ∧ w'.cell? ⟨wa.heap.size, 2, none⟩ = some (.int .u32 1) ∧ w'.cell? ⟨wa.heap.size, 3, none⟩ = some (.int .u32 3) ∧ w'.cell? ⟨wc.heap.size, 0, none⟩ = some (.int .u64 9) ∧ w'.cell? ⟨wc.heap.size, 1, none⟩ = some (.int .u64 0) ∧ w'.cell? ⟨wc.heap.size, 2, none⟩ = some (.int .u32 2) ∧ w'.cell? ⟨wc.heap.size, 3, none⟩ = some (.int .u32 0) ∧ w'.cell? ⟨wc.heap.size + 1, 0, none⟩ = some (.int .i64 3))) (by kernel_rfl) (by (try dsimp only); exact exCells HA.out HB.out H2.out H6.out H8.out) (fun hHeld => ?_)
    simp only [List.size_toArray, List.length_cons, List.length_nil, Nat.zero_add, Nat.reduceAdd]
    refine held_take (i := 0) (v := ?_) rfl (by kernel_rfl) (by kernel_rfl) (by kernel_rfl) (fun _ _ _ h => h) (by rfl) ?_ (by assumption) ?_
    rotate_left
    · intro w hSw
      (try dsimp only at hSw)
      go_simp
      try with_reducible rfl
    try simp only [Act.put, List.setIfInBounds_toArray, List.set_cons_zero, List.set_cons_succ]
    refine held_take (i := 1) (v := ?_) rfl (by kernel_rfl) (by kernel_rfl) (by kernel_rfl) (fun _ _ _ h => h) (by rfl) ?_ (by assumption) ?_
    rotate_left
    · intro w hSw
      (try dsimp only at hSw)
      go_simp
      try with_reducible rfl
    try simp only [Act.put, List.setIfInBounds_toArray, List.set_cons_zero, List.set_cons_succ]
    refine held_take (i := 2) (v := ?_) rfl (by kernel_rfl) (by kernel_rfl) (by kernel_rfl) (fun _ _ _ h => h) (by rfl) ?_ (by assumption) ?_
    rotate_left
    · intro w hSw
      (try dsimp only at hSw)
      go_simp
      try with_reducible rfl
    try simp only [Act.put, List.setIfInBounds_toArray, List.set_cons_zero, List.set_cons_succ]
    refine held_take (i := 3) (v := ?_) rfl (by kernel_rfl) (by kernel_rfl) (by kernel_rfl) (fun _ _ _ h => h) (by rfl) ?_ (by assumption) ?_
    rotate_left
    · intro w hSw
      (try dsimp only at hSw)
      go_simp
      try with_reducible rfl
    try simp only [Act.put, List.setIfInBounds_toArray, List.set_cons_zero, List.set_cons_succ]
    refine held_take (i := 4) (v := ?_) rfl (by kernel_rfl) (by kernel_rfl) (by kernel_rfl) (fun _ _ _ h => h) (by rfl) ?_ (by assumption) ?_
    rotate_left
    · intro w hSw
      (try dsimp only at hSw)
      go_simp
      try with_reducible rfl
    try simp only [Act.put, List.setIfInBounds_toArray, List.set_cons_zero, List.set_cons_succ]
    refine held_take (i := 5) (v := ?_) rfl (by kernel_rfl) (by kernel_rfl) (by kernel_rfl) (fun _ _ _ h => h) (by rfl) ?_ (by assumption) ?_
    rotate_left
    · intro w hSw
      (try dsimp only at hSw)
      go_simp
      try with_reducible rfl
    try simp only [Act.put, List.setIfInBounds_toArray, List.set_cons_zero, List.set_cons_succ]
    refine held_take (i := 6) (v := ?_) rfl (by kernel_rfl) (by kernel_rfl) (by kernel_rfl) (fun _ _ _ h => h) (by rfl) ?_ (by assumption) ?_
    rotate_left
    · intro w hSw
      (try dsimp only at hSw)
      go_simp
      try with_reducible rfl
    try simp only [Act.put, List.setIfInBounds_toArray, List.set_cons_zero, List.set_cons_succ]
    refine held_take (i := 7) (v := ?_) rfl (by kernel_rfl) (by kernel_rfl) (by kernel_rfl) (fun _ _ _ h => h) (by rfl) ?_ (by assumption) ?_
    rotate_left
    · intro w hSw
      (try dsimp only at hSw)
      go_simp
      try with_reducible rfl
    try simp only [Act.put, List.setIfInBounds_toArray, List.set_cons_zero, List.set_cons_succ]
    refine held_take (i := 8) (v := ?_) rfl (by kernel_rfl) (by kernel_rfl) (by kernel_rfl) (fun _ _ _ h => h) (by rfl) ?_ (by assumption) ?_
    rotate_left
    · intro w hSw
      (try dsimp only at hSw)
      go_simp
      try with_reducible rfl
    try simp only [Act.put, List.setIfInBounds_toArray, List.set_cons_zero, List.set_cons_succ]
    refine held_take (i := 9) (v := ?_) rfl (by kernel_rfl) (by kernel_rfl) (by kernel_rfl) (fun _ _ _ h => h) (by rfl) ?_ (by assumption) ?_
    rotate_left
    · intro w hSw
      (try dsimp only at hSw)
      go_simp
      try with_reducible rfl
    try simp only [Act.put, List.setIfInBounds_toArray, List.set_cons_zero, List.set_cons_succ]
    refine held_take (i := 10) (v := ?_) rfl (by kernel_rfl) (by kernel_rfl) (by kernel_rfl) (fun _ _ _ h => h) (by rfl) ?_ (by assumption) ?_
    rotate_left
    · intro w hSw
      (try dsimp only at hSw)
      go_simp
      try with_reducible rfl
    try simp only [Act.put, List.setIfInBounds_toArray, List.set_cons_zero, List.set_cons_succ]
    refine held_take (i := 11) (v := ?_) rfl (by kernel_rfl) (by kernel_rfl) (by kernel_rfl) (fun _ _ _ h => h) (by rfl) ?_ (by assumption) ?_
    rotate_left
    · intro w hSw
      (try dsimp only at hSw)
      go_simp
      try with_reducible rfl
    try simp only [Act.put, List.setIfInBounds_toArray, List.set_cons_zero, List.set_cons_succ]
    refine held_take (i := 12) (v := ?_) rfl (by kernel_rfl) (by kernel_rfl) (by kernel_rfl) (fun _ _ _ h => h) (by rfl) ?_ (by assumption) ?_
    rotate_left
    · intro w hSw
      (try dsimp only at hSw)
      go_simp
      try with_reducible rfl
    try simp only [Act.put, List.setIfInBounds_toArray, List.set_cons_zero, List.set_cons_succ]
    refine held_take (i := 13) (v := ?_) rfl (by kernel_rfl) (by kernel_rfl) (by kernel_rfl) (fun _ _ _ h => h) (by rfl) ?_ (by assumption) ?_
    rotate_left
    · intro w hSw
      (try dsimp only at hSw)
      go_simp
      try with_reducible rfl
    try simp only [Act.put, List.setIfInBounds_toArray, List.set_cons_zero, List.set_cons_succ]
    refine held_take (i := 14) (v := ?_) rfl (by kernel_rfl) (by kernel_rfl) (by kernel_rfl) (fun _ _ _ h => h) (by rfl) ?_ (by assumption) ?_
    rotate_left
    · intro w hSw
      (try dsimp only at hSw)
      go_simp
      try with_reducible rfl
    try simp only [Act.put, List.setIfInBounds_toArray, List.set_cons_zero, List.set_cons_succ]
    refine held_take (i := 15) (v := ?_) rfl (by kernel_rfl) (by kernel_rfl) (by kernel_rfl) (fun _ _ _ h => h) (by rfl) ?_ (by assumption) ?_
    rotate_left
    · intro w hSw
      (try dsimp only at hSw)
      go_simp
      try with_reducible rfl
    try simp only [Act.put, List.setIfInBounds_toArray, List.set_cons_zero, List.set_cons_succ]
    refine held_take (i := 16) (v := ?_) rfl (by kernel_rfl) (by kernel_rfl) (by kernel_rfl) (fun _ _ _ h => h) (by rfl) ?_ (by assumption) ?_
    rotate_left
    · intro w hSw
      (try dsimp only at hSw)
      go_simp
      try with_reducible rfl
    try simp only [Act.put, List.setIfInBounds_toArray, List.set_cons_zero, List.set_cons_succ]
    refine held_take (i := 17) (v := ?_) rfl (by kernel_rfl) (by kernel_rfl) (by kernel_rfl) (fun _ _ _ h => h) (by rfl) ?_ (by assumption) ?_
    rotate_left
    · intro w hSw
      (try dsimp only at hSw)
      go_simp
      try with_reducible rfl
    try simp only [Act.put, List.setIfInBounds_toArray, List.set_cons_zero, List.set_cons_succ]
    refine held_take (i := 18) (v := ?_) rfl (by kernel_rfl) (by kernel_rfl) (by kernel_rfl) (fun _ _ _ h => h) (by rfl) ?_ (by assumption) ?_
    rotate_left
    · intro w hSw
      (try dsimp only at hSw)
      go_simp
      try with_reducible rfl
    try simp only [Act.put, List.setIfInBounds_toArray, List.set_cons_zero, List.set_cons_succ]
    refine held_take (i := 19) (v := ?_) rfl (by kernel_rfl) (by kernel_rfl) (by kernel_rfl) (fun _ _ _ h => h) (by rfl) ?_ (by assumption) ?_
    rotate_left
    · intro w hSw
      (try dsimp only at hSw)
      go_simp
      try with_reducible rfl
    try simp only [Act.put, List.setIfInBounds_toArray, List.set_cons_zero, List.set_cons_succ]
    refine held_take (i := 20) (v := ?_) rfl (by kernel_rfl) (by kernel_rfl) (by kernel_rfl) (fun _ _ _ h => h) (by rfl) ?_ (by assumption) ?_
    rotate_left
    · intro w hSw
      (try dsimp only at hSw)
      go_simp
      try with_reducible rfl
    try simp only [Act.put, List.setIfInBounds_toArray, List.set_cons_zero, List.set_cons_succ]
    refine held_take (i := 21) (v := ?_) rfl (by kernel_rfl) (by kernel_rfl) (by kernel_rfl) (fun _ _ _ h => h) (by rfl) ?_ (by assumption) ?_
    rotate_left
    · intro w hSw
      (try dsimp only at hSw)
      go_simp
      try with_reducible rfl
    try simp only [Act.put, List.setIfInBounds_toArray, List.set_cons_zero, List.set_cons_succ]
    refine held_take (i := 22) (v := ?_) rfl (by kernel_rfl) (by kernel_rfl) (by kernel_rfl) (fun _ _ _ h => h) (by rfl) ?_ (by assumption) ?_
    rotate_left
    · intro w hSw
      (try dsimp only at hSw)
      go_simp
      try with_reducible rfl
    try simp only [Act.put, List.setIfInBounds_toArray, List.set_cons_zero, List.set_cons_succ]
    refine held_take (i := 23) (v := ?_) rfl (by kernel_rfl) (by kernel_rfl) (by kernel_rfl) (fun _ _ _ h => h) (by rfl) ?_ (by assumption) ?_
    rotate_left
    · intro w hSw
      (try dsimp only at hSw)
      go_simp
      try with_reducible rfl
    try simp only [Act.put, List.setIfInBounds_toArray, List.set_cons_zero, List.set_cons_succ]
    refine held_call (i := 24) (by kernel_rfl) rfl (fun K hK => ?_)
    go_simp
    refine (place_any _ 2 2 Sk.ex (w.heap.size + 1) _ 4 (reads_blk2 (B := w.heap.size + 1) (by exact HA.out) (by omega) rfl) rfl exS_fits (by exact blk_lt HA.out) (by omega)).mono ?_; rintro e w5 ⟨he, hb⟩; rw [ex_at4] at he; subst he; have HA := Lib.hid (blk_keep2 hb HA.out); have HB := Lib.hid (blk_keep2 hb HB.out); have H2 := Lib.hid (blk_keep2 hb H2.out); have H6 := Lib.hid (blk_keep2 hb H6.out); have H8 := Lib.hid (blk_keep2 hb H8.out); have HK := Lib.hid (blk_keep2 hb HK.out); have hw := bthen2 hb (by first | exact hw | exact Below.drew hw | exact bdraws hw _); clear hb
    refine hK.out _ _ (by (try dsimp only); exact exCells HA.out HB.out H2.out H6.out H8.out) (fun hHeld => ?_)
    clear hK K
    try simp only [Act.put, List.setIfInBounds_toArray, List.set_cons_zero, List.set_cons_succ]
    refine held_take (i := 25) (v := ?_) rfl (by kernel_rfl) (by kernel_rfl) (by kernel_rfl) (fun _ _ _ h => h) (by rfl) ?_ (by assumption) ?_
    rotate_left
    · intro w hSw
      (try dsimp only at hSw)
      go_simp
      try with_reducible rfl
    try simp only [Act.put, List.setIfInBounds_toArray, List.set_cons_zero, List.set_cons_succ]
    refine held_take (i := 26) (v := ?_) rfl (by kernel_rfl) (by kernel_rfl) (by kernel_rfl) (fun _ _ _ h => h) (by rfl) ?_ (by assumption) ?_
    rotate_left
    · intro w hSw
      (try dsimp only at hSw)
      go_simp
      try with_reducible rfl
    try simp only [Act.put, List.setIfInBounds_toArray, List.set_cons_zero, List.set_cons_succ]
    refine held_take (i := 27) (v := ?_) rfl (by kernel_rfl) (by kernel_rfl) (by kernel_rfl) (fun _ _ _ h => h) (by rfl) ?_ (by assumption) ?_
    rotate_left
    · intro w hSw
      (try dsimp only at hSw)
      go_simp
      try with_reducible rfl
    try simp only [Act.put, List.setIfInBounds_toArray, List.set_cons_zero, List.set_cons_succ]
    refine held_take (i := 28) (v := ?_) rfl (by kernel_rfl) (by kernel_rfl) (by kernel_rfl) (fun _ _ _ h => h) (by rfl) ?_ (by assumption) ?_
    rotate_left
    · intro w hSw
      (try dsimp only at hSw)
      go_simp
      try with_reducible rfl
    try simp only [Act.put, List.setIfInBounds_toArray, List.set_cons_zero, List.set_cons_succ]
    refine held_call (i := 29) (by kernel_rfl) rfl (fun K hK => ?_)
    go_simp
    refine (place_any _ 2 2 Sk.ex (w.heap.size + 1) _ 8 (reads_blk2 (B := w.heap.size + 1) (by exact HA.out) (by omega) rfl) rfl exS_fits (by exact blk_lt HA.out) (by omega)).mono ?_; rintro e w6 ⟨he, hb⟩; rw [ex_at8] at he; subst he; have HA := Lib.hid (blk_keep2 hb HA.out); have HB := Lib.hid (blk_keep2 hb HB.out); have H2 := Lib.hid (blk_keep2 hb H2.out); have H6 := Lib.hid (blk_keep2 hb H6.out); have H8 := Lib.hid (blk_keep2 hb H8.out); have HK := Lib.hid (blk_keep2 hb HK.out); have hw := bthen2 hb (by first | exact hw | exact Below.drew hw | exact bdraws hw _); clear hb
    refine hK.out _ _ (by (try dsimp only); exact exCells HA.out HB.out H2.out H6.out H8.out) (fun hHeld => ?_)
    clear hK K
    try simp only [Act.put, List.setIfInBounds_toArray, List.set_cons_zero, List.set_cons_succ]
    refine held_take (i := 30) (v := ?_) rfl (by kernel_rfl) (by kernel_rfl) (by kernel_rfl) (fun _ _ _ h => h) (by rfl) ?_ (by assumption) ?_
    rotate_left
    · intro w hSw
      (try dsimp only at hSw)
      go_simp
      try with_reducible rfl
    try simp only [Act.put, List.setIfInBounds_toArray, List.set_cons_zero, List.set_cons_succ]
    refine held_take (i := 31) (v := ?_) rfl (by kernel_rfl) (by kernel_rfl) (by kernel_rfl) (fun _ _ _ h => h) (by rfl) ?_ (by assumption) ?_
    rotate_left
    · intro w hSw
      (try dsimp only at hSw)
      go_simp
      try with_reducible rfl
    try simp only [Act.put, List.setIfInBounds_toArray, List.set_cons_zero, List.set_cons_succ]
    refine held_take (i := 32) (v := ?_) rfl (by kernel_rfl) (by kernel_rfl) (by kernel_rfl) (fun _ _ _ h => h) (by rfl) ?_ (by assumption) ?_
    rotate_left
    · intro w hSw
      (try dsimp only at hSw)
      go_simp
      try with_reducible rfl
    try simp only [Act.put, List.setIfInBounds_toArray, List.set_cons_zero, List.set_cons_succ]
    refine held_take (i := 33) (v := ?_) rfl (by kernel_rfl) (by kernel_rfl) (by kernel_rfl) (fun _ _ _ h => h) (by rfl) ?_ (by assumption) ?_
    rotate_left
    · intro w hSw
      (try dsimp only at hSw)
      go_simp
      try with_reducible rfl
    try simp only [Act.put, List.setIfInBounds_toArray, List.set_cons_zero, List.set_cons_succ]
    refine held_take (i := 34) (v := ?_) rfl (by kernel_rfl) (by kernel_rfl) (by kernel_rfl) (fun _ _ _ h => h) (by rfl) ?_ (by assumption) ?_
    rotate_left
    · intro w hSw
      (try dsimp only at hSw)
      go_simp
      try with_reducible rfl
    try simp only [Act.put, List.setIfInBounds_toArray, List.set_cons_zero, List.set_cons_succ]
    refine held_take (i := 35) (v := ?_) rfl (by kernel_rfl) (by kernel_rfl) (by kernel_rfl) (fun _ _ _ h => h) (by rfl) ?_ (by assumption) ?_
    rotate_left
    · intro w hSw
      (try dsimp only at hSw)
      go_simp
      try with_reducible rfl
    try simp only [Act.put, List.setIfInBounds_toArray, List.set_cons_zero, List.set_cons_succ]
    refine held_take (i := 36) (v := ?_) rfl (by kernel_rfl) (by kernel_rfl) (by kernel_rfl) (fun _ _ _ h => h) (by rfl) ?_ (by assumption) ?_
    rotate_left
    · intro w hSw
      (try dsimp only at hSw)
      go_simp
      try with_reducible rfl
    try simp only [Act.put, List.setIfInBounds_toArray, List.set_cons_zero, List.set_cons_succ]
    refine held_take (i := 37) (v := ?_) rfl (by kernel_rfl) (by kernel_rfl) (by kernel_rfl) (fun _ _ _ h => h) (by rfl) ?_ (by assumption) ?_
    rotate_left
    · intro w hSw
      (try dsimp only at hSw)
      go_simp
      try with_reducible rfl
    try simp only [Act.put, List.setIfInBounds_toArray, List.set_cons_zero, List.set_cons_succ]
    refine held_call (i := 38) (by kernel_rfl) rfl (fun K hK => ?_)
    go_simp
    refine (leaves_any _ 2 2 Sk.ex (w.heap.size + 1) _ (reads_blk2 (B := w.heap.size + 1) (by exact HA.out) (by omega) rfl) rfl (by exact blk_lt HA.out) (by omega)).mono ?_; intro e w7 hp; obtain ⟨v7, he, hO7, hb⟩ := hp; rw [ex_lv] at hO7; obtain ⟨A7, k7, hv7, _⟩ := own_slice hO7; subst hv7; subst he; clear hO7; have HA := Lib.hid (blk_keep2 hb HA.out); have HB := Lib.hid (blk_keep2 hb HB.out); have H2 := Lib.hid (blk_keep2 hb H2.out); have H6 := Lib.hid (blk_keep2 hb H6.out); have H8 := Lib.hid (blk_keep2 hb H8.out); have HK := Lib.hid (blk_keep2 hb HK.out); have hw := bthen2 hb (by first | exact hw | exact Below.drew hw | exact bdraws hw _); clear hb
    refine hK.out _ _ (by (try dsimp only); exact exCells HA.out HB.out H2.out H6.out H8.out) (fun hHeld => ?_)
    clear hK K
    try simp only [Act.put, List.setIfInBounds_toArray, List.set_cons_zero, List.set_cons_succ]
    refine held_take (i := 39) (v := ?_) rfl (by kernel_rfl) (by kernel_rfl) (by kernel_rfl) (fun _ _ _ h => h) (by rfl) ?_ (by assumption) ?_
    rotate_left
    · intro w hSw
      (try dsimp only at hSw)
      go_simp
      try with_reducible rfl
    try simp only [Act.put, List.setIfInBounds_toArray, List.set_cons_zero, List.set_cons_succ]
    refine held_take (i := 40) (v := ?_) rfl (by kernel_rfl) (by kernel_rfl) (by kernel_rfl) (fun _ _ _ h => h) (by rfl) ?_ (by assumption) ?_
    rotate_left
    · intro w hSw
      (try dsimp only at hSw)
      go_simp
      try with_reducible rfl
    try simp only [Act.put, List.setIfInBounds_toArray, List.set_cons_zero, List.set_cons_succ]
    refine held_take (i := 41) (v := ?_) rfl (by kernel_rfl) (by kernel_rfl) (by kernel_rfl) (fun _ _ _ h => h) (by rfl) ?_ (by assumption) ?_
    rotate_left
    · intro w hSw
      (try dsimp only at hSw)
      go_simp
      try with_reducible rfl
    try simp only [Act.put, List.setIfInBounds_toArray, List.set_cons_zero, List.set_cons_succ]
    refine held_take (i := 42) (v := ?_) rfl (by kernel_rfl) (by kernel_rfl) (by kernel_rfl) (fun _ _ _ h => h) (by rfl) ?_ (by assumption) ?_
    rotate_left
    · intro w hSw
      (try dsimp only at hSw)
      go_simp
      try with_reducible rfl
    try simp only [Act.put, List.setIfInBounds_toArray, List.set_cons_zero]
    refine wpAnyH_done (by kernel_rfl) ?_ _
    refine only_in ?_
    go_wp2_with fail
    refine ⟨by simp, .inl ⟨_, _, rfl, run_takeDeferred HK.out, ?_⟩⟩
    exact ⟨_, results_tmp rfl _ _ _, rfl, hw.trans (belowK_b (w := w) (Nat.le_refl _) _ D _ _ (by omega) HK.out rfl rfl)⟩
end Go.Proofs.Ytppciejcobmikaa
