/- SeekTiles: gone through, a row tells identifiers that rise, each with the entry that is found for it, as many as the runs are, as far as one goes, and again; no row tells none; and the law returns true. -/
import Derived.Test.YtppciejcobmikaaEntOpen
import Derived.Test.YtppciejcobmikaaSeekAwake
import Derived.Test.YtppciejcobmikaaEntSame
import Derived.Test.YtppciejcobmikaaEntApp
import Derived.Test.YtppciejcobmikaaSeekRound
import Derived.Test.YtppciejcobmikaaEntSums
namespace Go.Proofs.Ytppciejcobmikaa.seekTiles
open Go.ChangeShapes Go.WideShapes Go.ChangeAt Go.RowKit
set_option linter.unusedVariables false

theorem run_eql_func_nil {P : Program} {ps rs : Array TypeId} {vd : Bool} (w : World) {t : TypeId} (fn : Fn) (fi ca : Array Value) (ht : P.underlying t = some (.func ps rs vd)) : (binOp .eql t (.func fn fi ca) .nilFunc).run P w = .ok (.bool false) w := by
  have h : ∀ d : Nat, (Op.equalIn (d + 1) t (.func fn fi ca) .nilFunc).run P w = .ok false w := fun d => by
    simp [Op.equalIn, run_underlying ht]
  simp only [binOp]
  simp [Op.equal, Op.maxDepth, h 9999]

attribute [local go_sem] Oper.semAt_some
set_option maxRecDepth 100000 in
set_option maxHeartbeats 10000000 in
theorem walk (w : World) (A0 : Option Addr) (n0 c0 : Nat) (L0 : List Ent) (hr0 : Reads w w.heap.size 4 A0 n0 (ecells L0)) (hn0 : n0 = L0.length) (hf0 : En.fits L0) (hm0 : n0 * 24 ≤ 140737488355328) (hc0 : n0 ≤ c0) (a1 : Int) (w1 : (Lit.int .u8 a1).wf = true) :
    Calls Try.prog 10 #[.slice A0 n0 c0, .int .u8 a1] w fun e w' => e = .returned (.bool true) ∧ Below w.heap.size w w' := by
  by_cases hg0 : 200 < n0
  · clear hr0 hn0 hf0
    go_enter Try.func10, Try.ntmps10
    go_wp2_with fail
    refine (awake09 _).mono ?_; rintro e w1 ⟨rfl, hb⟩
    obtain ⟨h1, h2, h3, h4, h5⟩ := blk_two hb
    have c1 : w1.cell? ⟨w.heap.size + 1, 0, none⟩ = some (.bool false) := cell_of_row w1 (w.heap.size + 1) 0 _ _ _ h2
    have f1 : w1.frozen? ⟨w.heap.size + 1, 0, none⟩ = false := by simp [World.frozen?, h2]
    clear h1 h2 hb
    go_wp2_with fail
    exact bodyPost_ret (v := .bool true) (by simp [results, Try.results10, go_sem, c1]) rfl ⟨rfl, h5.setCell (by dsimp only; omega) _⟩
  · have HR0 := Lib.hid hr0
    have HN0 := Lib.hid hn0
    have HF0 := Lib.hid hf0
    clear hr0 hn0 hf0
    obtain ⟨m0, m1⟩ := bd_u8 w1
    refine calls_of_wp_marks Try.func10 rfl ?_
    simp only [Try.ntmps10, List.size_toArray, List.length_cons, List.length_nil, Nat.reduceAdd, Nat.reduceSub, Array.replicate_succ, Array.replicate_zero, List.push_toArray, List.append_toArray, List.nil_append, List.cons_append]
    go_wp2_with fail
    have HM := Lib.hid (blk_alloc (heap_alloc_new w (.cells #[.int .u8 a1] 5)) (.cells #[.bool false] 4))
    have HB := Lib.hid (heap_alloc_new (w.alloc (.cells #[.int .u8 a1] 5)) (.cells #[.bool false] 4))
    have hw : Below w.heap.size w ((w.alloc (.cells #[.int .u8 a1] 5)).alloc (.cells #[.bool false] 4)) := bthen (blk_new _ _) (blk_new _ _)
    rw [World.size_alloc] at HB
    refine (own_any _ _ _ L0 _ _ (HR0.out.below hw) HN0.out hw.size hm0).mono ?_
    intro e wa h1
    obtain ⟨x, he, hO, hb⟩ := h1
    obtain ⟨Ax, kx, hv, hkx⟩ := own_slice hO
    rw [hv] at he hO
    rw [← HN0.out] at he hO hkx
    subst he
    clear hv
    have HX : Hid (wa.ownsRow w.heap.size 26 4 (.slice Ax n0 kx) n0 (ecells L0)) := Lib.hid (ownsRow_base hO (by simp; omega))
    clear hO
    replace HM := Lib.hid (blk_keep2 hb HM.out)
    replace HB := Lib.hid (blk_keep2 hb HB.out)
    replace hw := bthen2 hb hw
    clear hb
    go_wp2_with fail
    replace HM := Lib.hid (blk_alloc HM.out (.cells #[.slice Ax n0 kx] 37))
    replace HB := Lib.hid (blk_alloc HB.out (.cells #[.slice Ax n0 kx] 37))
    replace HX := Lib.hid (ownsRow_keep HX.out (blk_new wa (.cells #[.slice Ax n0 kx] 37)))
    have HS := Lib.hid (heap_alloc_new wa (.cells #[.slice Ax n0 kx] 37))
    replace hw := bthen2 (blk_new wa (.cells #[.slice Ax n0 kx] 37)) hw
    refine (tiles_any _ _ _ L0 _ _ (Reads.of_own HX.out) HN0.out HF0.out (Nat.le_refl _) (by omega)).mono ?_
    intro e wd hp
    obtain ⟨v, Bs, he, t1, t2, t3, t4, hb⟩ := hp
    subst he
    rw [World.size_alloc] at t1 t4
    have hsz0 := hb.size
    rw [World.size_alloc] at hsz0
    replace HM := Lib.hid (blk_keep2 hb HM.out)
    replace HB := Lib.hid (blk_keep2 hb HB.out)
    replace HS := Lib.hid (blk_keep2 hb HS.out)
    replace HX := Lib.hid (ownsRow_keep HX.out hb)
    replace hw := bthen2 hb hw
    clear hb
    have b0 : wd.cell? ⟨wa.heap.size, 0, none⟩ = some (.slice Ax n0 kx) := cell_of_row wd wa.heap.size 0 _ _ _ HS.out
    have hnil := fun (w : World) (ca : Array Value) => run_eql_func_nil (P := Try.prog) w (.func 66) #[] ca Try.underlying59
    go_wp2_with fail
    clear hnil b0
    refine (count_any _ _ _ L0 _ _ (Reads.of_own HX.out) HN0.out HF0.out (Nat.le_refl _) (by omega)).mono ?_; rintro e we ⟨rfl, hb⟩
    have hse := hb.size
    have HT4 := Lib.hid (ownsRow_keep t4 hb)
    have HT3 : Hid (we.cell? ⟨Bs, 0, none⟩ = some v) := Lib.hid ((hb.cell (p := ⟨Bs, 0, none⟩) t2).trans t3)
    clear t3 t4
    replace HM := Lib.hid (blk_keep2 hb HM.out)
    replace HB := Lib.hid (blk_keep2 hb HB.out)
    replace HS := Lib.hid (blk_keep2 hb HS.out)
    replace HX := Lib.hid (ownsRow_keep HX.out hb)
    replace hw := bthen2 hb hw
    clear hb
    have b0 : we.cell? ⟨wa.heap.size, 0, none⟩ = some (.slice Ax n0 kx) := cell_of_row we wa.heap.size 0 _ _ _ HS.out
    go_wp2_with fail
    clear b0
    refine (row_any _ _ _ L0 _ _ (Reads.of_own HX.out) HN0.out HF0.out (Nat.le_refl _) (by omega)).mono ?_; rintro e wf ⟨rfl, hb⟩
    have hsf := hb.size
    replace HT4 := Lib.hid (ownsRow_keep HT4.out hb)
    replace HT3 := Lib.hid ((hb.cell (p := ⟨Bs, 0, none⟩) (by dsimp only; omega)).trans HT3.out)
    replace HM := Lib.hid (blk_keep2 hb HM.out)
    replace HB := Lib.hid (blk_keep2 hb HB.out)
    replace HS := Lib.hid (blk_keep2 hb HS.out)
    replace HX := Lib.hid (ownsRow_keep HX.out hb)
    replace hw := bthen2 hb hw
    clear hb
    have hal := Sk.all_len HF0.out
    obtain ⟨al, hall⟩ : ∃ al : Int, al = Sk.all L0 := ⟨_, rfl⟩
    rw [← hall] at hal
    have HAL := Lib.hid hal
    have hal0 : 0 ≤ al := by rw [← hal]; omega
    have hal1 : al ≤ 859000000000 := by
      rw [hall]; unfold Sk.all; have := En.cnt_bd L0 HF0.out; have := HN0.out; split <;> omega
    by_cases hrow : En.row L0 = 0
    · have hq : (En.row L0 != 0) = false := by rw [hrow]; rfl
      have hcn : En.cnt L0 = al := by rw [hall]; unfold Sk.all; rw [if_pos hrow]
      have HALL := Lib.hid hall
      clear hrow hall hal
      rw [hcn]
      clear hcn
      have hlt1 : w.heap.size + 1 < wf.heap.size := by have := blk_lt HB.out; exact this
      go_wp2_with fail
      clear hq
      refine wp_loop_rounds 3 ?_
      rw [rounds_succ]
      go_wp2_with fail
      obtain ⟨wr, hwr⟩ : ∃ wr, wr = (wf.alloc (.cells #[.int .u64 0] 22)).alloc (.cells #[.int .u64 0] 22) := ⟨_, rfl⟩
      have hNb : wr.heap[wf.heap.size]? = some (.cells #[.int .u64 0] 22 (0, 0)) := by rw [hwr]; exact blk_alloc (heap_alloc_new wf (.cells #[.int .u64 0] 22)) _
      have hLb : wr.heap[wf.heap.size + 1]? = some (.cells #[.int .u64 0] 22 (0, 0)) := by rw [hwr]; have h := heap_alloc_new (wf.alloc (.cells #[.int .u64 0] 22)) (.cells #[.int .u64 0] 22); rw [World.size_alloc] at h; exact h
      have hbr : Below wf.heap.size wf wr := by rw [hwr]; exact bthen (blk_new _ _) (blk_new _ _)
      have hsr : wr.heap.size = wf.heap.size + 2 := by rw [hwr]; simp
      rw [← hwr]
      clear hwr
      obtain ⟨gb, hg1, hg2, hseq⟩ := tiles_stops2 Fence.wide 4 trivial rfl (by omega) Bs (wa.heap.size + 1) v (Sk.own L0) wr wf (by omega) ((hbr.cell (p := ⟨Bs, 0, none⟩) (by dsimp only; omega)).trans HT3.out) HT4.out (by omega) hbr (by have := HN0.out; unfold Sk.own; split <;> simp; omega) (Sk.own_fits HF0.out) (Sk.own_sum HF0.out)
      have HQ := Lib.hid hseq
      have HNb := Lib.hid hNb
      have HLb := Lib.hid hLb
      clear hseq hNb hLb
      refine wp_range_seek 11 12 (Bs := Bs) (gb := gb) L0 wf.heap.size (wf.heap.size + 1) wf (a1 + 100) rfl HQ.out HF0.out (by omega) ⟨⟨⟨⟨HNb.out, HLb.out⟩, KeptBut.refl _ _⟩, hbr⟩, Nat.le_refl _⟩ (by omega) ?assign ?body ?next
      case assign =>
        intro l x W K hK
        gi_wp2
        exact hK
      case body =>
        intro l n last x Bx W Q hi hn hlast hb hret hexit hgo
        obtain ⟨xi, xf, xr, x0, x1⟩ := Sk.ts_found HF0.out x.2
        obtain ⟨⟨id, ei, eo, el, er⟩, hx⟩ := x
        dsimp only at xi xf xr x0 x1 hb hret hexit hgo
        have hfr : ∀ e, FindR L0 id e → e = .returned (.tuple #[.agg #[.int .u64 ei, .int .u64 eo, .int .u32 el, .int .u32 er], .bool true]) := fun e h => by unfold FindR at h; rw [xf, xi] at h; exact h
        have hS : ∀ b, (b = wf.heap.size ∨ b = wf.heap.size + 1) → wf.heap.size ≤ b := fun b h => by rcases h with rfl | rfl <;> omega
        have KB := hi.1.1.2
        have HXW := Lib.hid (KB.ownsRow HX.out hbr hS)
        have HSW := KB.blk HS.out hbr hS
        have HMW := KB.blk HM.out hbr hS
        have b0 : W.cell? ⟨wa.heap.size, 0, none⟩ = some (.slice Ax n0 kx) := cell_of_row W wa.heap.size 0 _ _ _ HSW
        have HI := Lib.hid hi
        have HFR := Lib.hid hfr
        have HB2 : Hid (W.heap[Bx]? = some (.cells #[.int .u64 ei, .int .u64 eo, .int .u32 el, .int .u32 er] 26 (0, 0))) := Lib.hid hb
        have HMW := Lib.hid HMW
        have HBW := Lib.hid (KB.blk HB.out hbr hS)
        have HRET := Lib.hid hret
        have HEXIT := Lib.hid hexit
        have HGO := Lib.hid hgo
        clear hi hfr hb HSW KB hS hret hexit hgo xi xf
        unfold roundAct
        simp only [List.setIfInBounds_toArray, List.set_cons_zero, List.set_cons_succ]
        gi_wp2
        refine ⟨trivial, ?_⟩
        refine (CallsIn.inRound l (callsIn_wide.2 (find_any _ _ _ L0 _ _ id (Reads.of_own HXW.out) HN0.out HF0.out (Nat.le_refl _) (by omega)))).mono ?_
        rintro e w5 ⟨he, hb⟩
        obtain rfl := HFR.out _ he
        have hb6 : Below W.heap.size W (w5.alloc (.cells #[.int .u64 ei, .int .u64 eo, .int .u32 el, .int .u32 er] 26)) := hb.trans ((blk_new w5 (.cells #[.int .u64 ei, .int .u64 eo, .int .u32 el, .int .u32 er] 26)).mono hb.size)
        have hi6 := HI.out.below hb6
        have HI6 := Lib.hid hi6
        have hM6 := blk_keep HMW.out hb6
        have hB6 := blk_keep HB2.out hb6
        have mc : (w5.alloc (.cells #[.int .u64 ei, .int .u64 eo, .int .u32 el, .int .u32 er] 26)).cell? ⟨w.heap.size, 0, none⟩ = some (.int .u8 a1) := cell_of_row _ w.heap.size 0 _ _ _ hM6
        obtain ⟨x0c, x1c, x2c, x3c⟩ := blk_cells4 hB6
        obtain ⟨y0c, y1c, y2c, y3c⟩ := blk_cells4 (heap_alloc_new w5 (.cells #[.int .u64 ei, .int .u64 eo, .int .u32 el, .int .u32 er] 26))
        have nc : (w5.alloc (.cells #[.int .u64 ei, .int .u64 eo, .int .u32 el, .int .u32 er] 26)).cell? ⟨wf.heap.size, 0, none⟩ = some (.int .u64 (n : Int)) := cell_of_row _ wf.heap.size 0 _ _ _ hi6.1.1.1.1
        have lc : (w5.alloc (.cells #[.int .u64 ei, .int .u64 eo, .int .u32 el, .int .u32 er] 26)).cell? ⟨wf.heap.size + 1, 0, none⟩ = some (.int .u64 last) := cell_of_row _ (wf.heap.size + 1) 0 _ _ _ hi6.1.1.1.2
        have nf : (w5.alloc (.cells #[.int .u64 ei, .int .u64 eo, .int .u32 el, .int .u32 er] 26)).frozen? ⟨wf.heap.size, 0, none⟩ = false := by have h := hi6.1.1.1.1; simp only [World.frozen?, h]; rfl
        have lf : (w5.alloc (.cells #[.int .u64 ei, .int .u64 eo, .int .u32 el, .int .u32 er] 26)).frozen? ⟨wf.heap.size + 1, 0, none⟩ = false := by have h := hi6.1.1.1.2; simp only [World.frozen?, h]; rfl
        have rc : (w5.alloc (.cells #[.int .u64 ei, .int .u64 eo, .int .u32 el, .int .u32 er] 26)).cell? ⟨w.heap.size + 1, 0, none⟩ = some (.bool false) := cell_of_row _ (w.heap.size + 1) 0 _ _ _ (blk_keep HBW.out hb6)
        have rf : (w5.alloc (.cells #[.int .u64 ei, .int .u64 eo, .int .u32 el, .int .u32 er] 26)).frozen? ⟨w.heap.size + 1, 0, none⟩ = false := by have h := blk_keep HBW.out hb6; simp only [World.frozen?, h]; rfl
        have HB6 := Lib.hid hb6
        have hneq := fun w => neq_ent ei eo el er ei eo el er w
        rw [(En.teq_iff (ei, eo, el, er) (ei, eo, el, er)).2 rfl] at hneq
        simp only [Bool.not_true] at hneq
        have hxr : (er == 0) = false := by have : ¬ er = 0 := by omega
                                           simpa using this
        have hlt1 : w.heap.size + 1 < wf.heap.size := hlt1
        clear hi6 hM6 hB6 he hb hb6
        by_cases hn0 : 0 < n
        · by_cases hil : id ≤ last
          · have HR9 := Lib.hid (HRET.out hn0 hil)
            have hn0' : (0 : Int) < (n : Int) := by omega
            clear HRET HEXIT HGO
            gi_wp2
            refine HR9.out _ _ ?_
            exact (KeepsOthers.of_below HB6.out).trans (KeepsOthers.setCell _ _ _)
          · have hc : ¬ (0 < n ∧ id ≤ last) := fun h => hil h.2
            have hn0' : (0 : Int) < (n : Int) := by omega
            have hil' : last < id := by omega
            by_cases hlim : (n : Int) + 1 = a1 + 100
            · have HR9 := Lib.hid (HEXIT.out hc hlim)
              have hq9 : ((n : Int) + 1 == a1 + 100) = true := by simpa using hlim
              clear HRET HEXIT HGO hlim hc
              gi_wp2
              exact HR9.out _ _ (LoopI.keeps HB6.out (by omega) (by omega) (by omega) (by omega) _ _) (HI6.out.step (by omega) (by omega) (by omega))
            · have HR9 := Lib.hid (HGO.out hc (by omega))
              have hq9 : ((n : Int) + 1 == a1 + 100) = false := by simpa using hlim
              clear HRET HEXIT HGO hlim hc
              gi_wp2
              exact HR9.out _ _ (LoopI.keeps HB6.out (by omega) (by omega) (by omega) (by omega) _ _) (HI6.out.step (by omega) (by omega) (by omega))
        · have hc : ¬ (0 < n ∧ id ≤ last) := fun h => hn0 h.1
          obtain rfl : n = 0 := by omega
          have HR9 := Lib.hid (HGO.out hc (by omega))
          have hq9 : (((0 : Nat) : Int) + 1 == a1 + 100) = false := by have : ¬ ((0 : Nat) : Int) + 1 = a1 + 100 := by omega
                                                                       simpa using this
          clear HRET HEXIT HGO hc
          gi_wp2
          exact HR9.out _ _ (LoopI.keeps HB6.out (by omega) (by omega) (by omega) (by omega) _ _) (HI6.out.step (by omega) (by omega) (by omega))
      case next =>
        intro D1 W1 N last hD1 hi hN hK
        have hbW := hi.1.2
        have hsW := hi.2
        have nc : W1.cell? ⟨wf.heap.size, 0, none⟩ = some (.int .u64 N) := cell_of_row _ wf.heap.size 0 _ _ _ hi.1.1.1.1
        replace HM := Lib.hid (blk_keep2 hbW HM.out)
        replace HB := Lib.hid (blk_keep2 hbW HB.out)
        replace HS := Lib.hid (blk_keep2 hbW HS.out)
        replace HX := Lib.hid (ownsRow_keep HX.out hbW)
        replace HT4 := Lib.hid (ownsRow_keep HT4.out hbW)
        replace HT3 := Lib.hid ((hbW.cell (p := ⟨Bs, 0, none⟩) (by dsimp only; omega)).trans HT3.out)
        replace hw := bthen2 hbW hw
        have HK1 := Lib.hid hK
        have mc : W1.cell? ⟨w.heap.size, 0, none⟩ = some (.int .u8 a1) := cell_of_row W1 w.heap.size 0 _ _ _ HM.out
        rw [← HALL.out] at hN
        have HNN := Lib.hid hN
        have hsz : wf.heap.size + 2 ≤ W1.heap.size := by omega
        clear hi hN hK hbW HQ HNb HLb hbr hg1 hg2 hsW
        have hmin : (if a1 + 100 < al then a1 + 100 else al) = N := by rw [HNN.out]; split <;> split <;> omega
        go_wp2_with fail
        have hDlt := blk_lt HK1.out
        clear nc mc hmin
        rw [rounds_succ]
        go_wp2_with fail
        have hlt0 := hlt1
        replace hlt1 : w.heap.size + 1 < W1.heap.size := by omega
        have hsB : Bs < W1.heap.size := by omega
        have hsA : wa.heap.size + 1 < W1.heap.size := by omega
        obtain ⟨wr2, hwr⟩ : ∃ wr, wr = (W1.alloc (.cells #[.int .u64 0] 22)).alloc (.cells #[.int .u64 0] 22) := ⟨_, rfl⟩
        have hNb : wr2.heap[W1.heap.size]? = some (.cells #[.int .u64 0] 22 (0, 0)) := by rw [hwr]; exact blk_alloc (heap_alloc_new W1 (.cells #[.int .u64 0] 22)) _
        have hLb : wr2.heap[W1.heap.size + 1]? = some (.cells #[.int .u64 0] 22 (0, 0)) := by rw [hwr]; have h := heap_alloc_new (W1.alloc (.cells #[.int .u64 0] 22)) (.cells #[.int .u64 0] 22); rw [World.size_alloc] at h; exact h
        have hbr : Below W1.heap.size W1 wr2 := by rw [hwr]; exact bthen (blk_new _ _) (blk_new _ _)
        have hsr : wr2.heap.size = W1.heap.size + 2 := by rw [hwr]; simp
        rw [← hwr]
        clear hwr
        obtain ⟨gb, hg1, hg2, hseq⟩ := tiles_stops2 Fence.wide 4 trivial rfl (by omega) Bs (wa.heap.size + 1) v (Sk.own L0) wr2 W1 (by omega) ((hbr.cell (p := ⟨Bs, 0, none⟩) (by dsimp only; omega)).trans HT3.out) HT4.out (by omega) hbr (by have := HN0.out; unfold Sk.own; split <;> simp; omega) (Sk.own_fits HF0.out) (Sk.own_sum HF0.out)
        have HQ := Lib.hid hseq
        have HNb := Lib.hid hNb
        have HLb := Lib.hid hLb
        clear hseq hNb hLb
        refine wp_range_seek 11 12 (Bs := Bs) (gb := gb) L0 W1.heap.size (W1.heap.size + 1) W1 (a1 + 100) rfl HQ.out HF0.out (by omega) ⟨⟨⟨⟨HNb.out, HLb.out⟩, KeptBut.refl _ _⟩, hbr⟩, Nat.le_refl _⟩ (by omega) ?assign ?body ?next
        case assign =>
          intro l x W K hK
          gi_wp2
          exact hK
        case body =>
          intro l n last x Bx W Q hi hn hlast hb hret hexit hgo
          obtain ⟨xi, xf, xr, x0, x1⟩ := Sk.ts_found HF0.out x.2
          obtain ⟨⟨id, ei, eo, el, er⟩, hx⟩ := x
          dsimp only at xi xf xr x0 x1 hb hret hexit hgo
          have hfr : ∀ e, FindR L0 id e → e = .returned (.tuple #[.agg #[.int .u64 ei, .int .u64 eo, .int .u32 el, .int .u32 er], .bool true]) := fun e h => by unfold FindR at h; rw [xf, xi] at h; exact h
          have hS : ∀ b, (b = W1.heap.size ∨ b = W1.heap.size + 1) → W1.heap.size ≤ b := fun b h => by rcases h with rfl | rfl <;> omega
          have KB := hi.1.1.2
          have HXW := Lib.hid (KB.ownsRow HX.out hbr hS)
          have HSW := KB.blk HS.out hbr hS
          have HMW := KB.blk HM.out hbr hS
          have b0 : W.cell? ⟨wa.heap.size, 0, none⟩ = some (.slice Ax n0 kx) := cell_of_row W wa.heap.size 0 _ _ _ HSW
          have HI := Lib.hid hi
          have HFR := Lib.hid hfr
          have HB2 : Hid (W.heap[Bx]? = some (.cells #[.int .u64 ei, .int .u64 eo, .int .u32 el, .int .u32 er] 26 (0, 0))) := Lib.hid hb
          have HMW := Lib.hid HMW
          have HBW := Lib.hid (KB.blk HB.out hbr hS)
          have HRET := Lib.hid hret
          have HEXIT := Lib.hid hexit
          have HGO := Lib.hid hgo
          clear hi hfr hb HSW KB hS hret hexit hgo xi xf
          unfold roundAct
          simp only [List.setIfInBounds_toArray, List.set_cons_zero, List.set_cons_succ]
          gi_wp2
          refine ⟨trivial, ?_⟩
          refine (CallsIn.inRound l (callsIn_wide.2 (find_any _ _ _ L0 _ _ id (Reads.of_own HXW.out) HN0.out HF0.out (Nat.le_refl _) (by omega)))).mono ?_
          rintro e w5 ⟨he, hb⟩
          obtain rfl := HFR.out _ he
          have hb6 : Below W.heap.size W (w5.alloc (.cells #[.int .u64 ei, .int .u64 eo, .int .u32 el, .int .u32 er] 26)) := hb.trans ((blk_new w5 (.cells #[.int .u64 ei, .int .u64 eo, .int .u32 el, .int .u32 er] 26)).mono hb.size)
          have hi6 := HI.out.below hb6
          have HI6 := Lib.hid hi6
          have hM6 := blk_keep HMW.out hb6
          have hB6 := blk_keep HB2.out hb6
          have mc : (w5.alloc (.cells #[.int .u64 ei, .int .u64 eo, .int .u32 el, .int .u32 er] 26)).cell? ⟨w.heap.size, 0, none⟩ = some (.int .u8 a1) := cell_of_row _ w.heap.size 0 _ _ _ hM6
          obtain ⟨x0c, x1c, x2c, x3c⟩ := blk_cells4 hB6
          obtain ⟨y0c, y1c, y2c, y3c⟩ := blk_cells4 (heap_alloc_new w5 (.cells #[.int .u64 ei, .int .u64 eo, .int .u32 el, .int .u32 er] 26))
          have nc : (w5.alloc (.cells #[.int .u64 ei, .int .u64 eo, .int .u32 el, .int .u32 er] 26)).cell? ⟨W1.heap.size, 0, none⟩ = some (.int .u64 (n : Int)) := cell_of_row _ W1.heap.size 0 _ _ _ hi6.1.1.1.1
          have lc : (w5.alloc (.cells #[.int .u64 ei, .int .u64 eo, .int .u32 el, .int .u32 er] 26)).cell? ⟨W1.heap.size + 1, 0, none⟩ = some (.int .u64 last) := cell_of_row _ (W1.heap.size + 1) 0 _ _ _ hi6.1.1.1.2
          have nf : (w5.alloc (.cells #[.int .u64 ei, .int .u64 eo, .int .u32 el, .int .u32 er] 26)).frozen? ⟨W1.heap.size, 0, none⟩ = false := by have h := hi6.1.1.1.1; simp only [World.frozen?, h]; rfl
          have lf : (w5.alloc (.cells #[.int .u64 ei, .int .u64 eo, .int .u32 el, .int .u32 er] 26)).frozen? ⟨W1.heap.size + 1, 0, none⟩ = false := by have h := hi6.1.1.1.2; simp only [World.frozen?, h]; rfl
          have rc : (w5.alloc (.cells #[.int .u64 ei, .int .u64 eo, .int .u32 el, .int .u32 er] 26)).cell? ⟨w.heap.size + 1, 0, none⟩ = some (.bool false) := cell_of_row _ (w.heap.size + 1) 0 _ _ _ (blk_keep HBW.out hb6)
          have rf : (w5.alloc (.cells #[.int .u64 ei, .int .u64 eo, .int .u32 el, .int .u32 er] 26)).frozen? ⟨w.heap.size + 1, 0, none⟩ = false := by have h := blk_keep HBW.out hb6; simp only [World.frozen?, h]; rfl
          have HB6 := Lib.hid hb6
          have hneq := fun w => neq_ent ei eo el er ei eo el er w
          rw [(En.teq_iff (ei, eo, el, er) (ei, eo, el, er)).2 rfl] at hneq
          simp only [Bool.not_true] at hneq
          have hxr : (er == 0) = false := by have : ¬ er = 0 := by omega
                                             simpa using this
          have hlt1 : w.heap.size + 1 < W1.heap.size := hlt1
          clear hi6 hM6 hB6 he hb hb6
          by_cases hn0 : 0 < n
          · by_cases hil : id ≤ last
            · have HR9 := Lib.hid (HRET.out hn0 hil)
              have hn0' : (0 : Int) < (n : Int) := by omega
              clear HRET HEXIT HGO
              gi_wp2
              refine HR9.out _ _ ?_
              exact (KeepsOthers.of_below HB6.out).trans (KeepsOthers.setCell _ _ _)
            · have hc : ¬ (0 < n ∧ id ≤ last) := fun h => hil h.2
              have hn0' : (0 : Int) < (n : Int) := by omega
              have hil' : last < id := by omega
              by_cases hlim : (n : Int) + 1 = a1 + 100
              · have HR9 := Lib.hid (HEXIT.out hc hlim)
                have hq9 : ((n : Int) + 1 == a1 + 100) = true := by simpa using hlim
                clear HRET HEXIT HGO hlim hc
                gi_wp2
                exact HR9.out _ _ (LoopI.keeps HB6.out (by omega) (by omega) (by omega) (by omega) _ _) (HI6.out.step (by omega) (by omega) (by omega))
              · have HR9 := Lib.hid (HGO.out hc (by omega))
                have hq9 : ((n : Int) + 1 == a1 + 100) = false := by simpa using hlim
                clear HRET HEXIT HGO hlim hc
                gi_wp2
                exact HR9.out _ _ (LoopI.keeps HB6.out (by omega) (by omega) (by omega) (by omega) _ _) (HI6.out.step (by omega) (by omega) (by omega))
          · have hc : ¬ (0 < n ∧ id ≤ last) := fun h => hn0 h.1
            obtain rfl : n = 0 := by omega
            have HR9 := Lib.hid (HGO.out hc (by omega))
            have hq9 : (((0 : Nat) : Int) + 1 == a1 + 100) = false := by have : ¬ ((0 : Nat) : Int) + 1 = a1 + 100 := by omega
                                                                         simpa using this
            clear HRET HEXIT HGO hc
            gi_wp2
            exact HR9.out _ _ (LoopI.keeps HB6.out (by omega) (by omega) (by omega) (by omega) _ _) (HI6.out.step (by omega) (by omega) (by omega))
        case next =>
          intro D2 W2 N last hD2 hi hN hK
          have hbW := hi.1.2
          have hsW := hi.2
          have nc : W2.cell? ⟨W1.heap.size, 0, none⟩ = some (.int .u64 N) := cell_of_row _ W1.heap.size 0 _ _ _ hi.1.1.1.1
          replace HM := Lib.hid (blk_keep2 hbW HM.out)
          replace HB := Lib.hid (blk_keep2 hbW HB.out)
          replace HS := Lib.hid (blk_keep2 hbW HS.out)
          replace HX := Lib.hid (ownsRow_keep HX.out hbW)
          replace HT4 := Lib.hid (ownsRow_keep HT4.out hbW)
          replace HT3 := Lib.hid ((hbW.cell (p := ⟨Bs, 0, none⟩) (by dsimp only; omega)).trans HT3.out)
          replace hw := bthen2 hbW hw
          replace HK1 := Lib.hid (blk_keep2 hbW HK1.out)
          have HK2 := Lib.hid hK
          have mc : W2.cell? ⟨w.heap.size, 0, none⟩ = some (.int .u8 a1) := cell_of_row W2 w.heap.size 0 _ _ _ HM.out
          rw [← HALL.out] at hN
          have HNN := Lib.hid hN
          have hsz : W1.heap.size + 2 ≤ W2.heap.size := by omega
          clear hi hN hK hbW HQ HNb HLb hbr hg1 hg2 hsW
          have hmin : (if a1 + 100 < al then a1 + 100 else al) = N := by rw [HNN.out]; split <;> split <;> omega
          go_wp2_with fail
          clear nc mc hmin
          rw [rounds_succ]
          go_wp2_with fail
          refine (awake09 _).mono ?_; rintro e wz ⟨rfl, hb⟩
          replace HB := Lib.hid (blk_keep2 hb HB.out)
          replace HK1 := Lib.hid (blk_keep2 hb HK1.out)
          replace HK2 := Lib.hid (blk_keep2 hb HK2.out)
          replace hw := bthen2 hb hw
          clear hb
          have c1 : wz.cell? ⟨w.heap.size + 1, 0, none⟩ = some (.bool false) := cell_of_row wz (w.heap.size + 1) 0 _ _ _ HB.out
          have f1 : wz.frozen? ⟨w.heap.size + 1, 0, none⟩ = false := by have h := HB.out; simp only [World.frozen?, h]; rfl
          go_wp2_with fail
          have hK2 := (KeepsOthers.setCell wz ⟨w.heap.size + 1, 0, none⟩ (.bool true)).same D2 _ HK2.out rfl
          have hK1 := (KeepsOthers.setCell wz ⟨w.heap.size + 1, 0, none⟩ (.bool true)).same D1 _ HK1.out rfl
          have hc1 := World.cell?_setCell_same' wz ⟨w.heap.size + 1, 0, none⟩ (.bool true) (by rw [c1]; rfl)
          obtain ⟨wy, hwy⟩ : ∃ wy, wy = wz.setCell ⟨w.heap.size + 1, 0, none⟩ (.bool true) := ⟨_, rfl⟩
          replace hw : Below w.heap.size w wy := by rw [hwy]; exact hw.setCell (by dsimp only; omega) _
          rw [← hwy] at hK2 hK1 hc1 ⊢
          clear hwy c1 f1
          have hK1' := (World.putObj_heap_other (w := wy) (o := .deferred none) (by omega : D1 ≠ D2)).trans hK1
          have hc2 := cell_kept hc1 (grownBy_putObj' wy D2 (.deferred none)) (fun r e => by cases e; exact ⟨_, hK2, rfl⟩)
          have hc3 := cell_kept hc2 (grownBy_putObj' _ D1 (.deferred none)) (fun r e => by cases e; exact ⟨_, hK1', rfl⟩)
          refine ⟨by simp, .inl ⟨D2, _, rfl, run_takeDeferred hK2, ?_⟩⟩
          refine ⟨by simp, .inl ⟨D1, _, rfl, run_takeDeferred hK1', ?_⟩⟩
          exact ⟨.bool true, by simp [results, Try.f10, go_sem, hc3], rfl, (hw.trans (belowK_b (w := w) (Nat.le_refl _) _ D2 _ _ (by omega) hK2 rfl rfl)).trans (belowK_b (w := w) (Nat.le_refl _) _ D1 _ _ (by omega) hK1' rfl rfl)⟩
    · have hq := bne0 hrow
      have hz : al = 0 := by rw [hall]; unfold Sk.all; rw [if_neg hrow]
      have HALL := Lib.hid hall
      clear hrow hall hal
      subst hz
      have hlt1 : w.heap.size + 1 < wf.heap.size := by have := blk_lt HB.out; exact this
      go_wp2_with fail
      clear hq
      refine wp_loop_rounds 3 ?_
      rw [rounds_succ]
      go_wp2_with fail
      obtain ⟨wr, hwr⟩ : ∃ wr, wr = (wf.alloc (.cells #[.int .u64 0] 22)).alloc (.cells #[.int .u64 0] 22) := ⟨_, rfl⟩
      have hNb : wr.heap[wf.heap.size]? = some (.cells #[.int .u64 0] 22 (0, 0)) := by rw [hwr]; exact blk_alloc (heap_alloc_new wf (.cells #[.int .u64 0] 22)) _
      have hLb : wr.heap[wf.heap.size + 1]? = some (.cells #[.int .u64 0] 22 (0, 0)) := by rw [hwr]; have h := heap_alloc_new (wf.alloc (.cells #[.int .u64 0] 22)) (.cells #[.int .u64 0] 22); rw [World.size_alloc] at h; exact h
      have hbr : Below wf.heap.size wf wr := by rw [hwr]; exact bthen (blk_new _ _) (blk_new _ _)
      have hsr : wr.heap.size = wf.heap.size + 2 := by rw [hwr]; simp
      rw [← hwr]
      clear hwr
      obtain ⟨gb, hg1, hg2, hseq⟩ := tiles_stops2 Fence.wide 4 trivial rfl (by omega) Bs (wa.heap.size + 1) v (Sk.own L0) wr wf (by omega) ((hbr.cell (p := ⟨Bs, 0, none⟩) (by dsimp only; omega)).trans HT3.out) HT4.out (by omega) hbr (by have := HN0.out; unfold Sk.own; split <;> simp; omega) (Sk.own_fits HF0.out) (Sk.own_sum HF0.out)
      have HQ := Lib.hid hseq
      have HNb := Lib.hid hNb
      have HLb := Lib.hid hLb
      clear hseq hNb hLb
      refine wp_range_seek 11 12 (Bs := Bs) (gb := gb) L0 wf.heap.size (wf.heap.size + 1) wf (a1 + 100) rfl HQ.out HF0.out (by omega) ⟨⟨⟨⟨HNb.out, HLb.out⟩, KeptBut.refl _ _⟩, hbr⟩, Nat.le_refl _⟩ (by omega) ?assign ?body ?next
      case assign =>
        intro l x W K hK
        gi_wp2
        exact hK
      case body =>
        intro l n last x Bx W Q hi hn hlast hb hret hexit hgo
        obtain ⟨xi, xf, xr, x0, x1⟩ := Sk.ts_found HF0.out x.2
        obtain ⟨⟨id, ei, eo, el, er⟩, hx⟩ := x
        dsimp only at xi xf xr x0 x1 hb hret hexit hgo
        have hfr : ∀ e, FindR L0 id e → e = .returned (.tuple #[.agg #[.int .u64 ei, .int .u64 eo, .int .u32 el, .int .u32 er], .bool true]) := fun e h => by unfold FindR at h; rw [xf, xi] at h; exact h
        have hS : ∀ b, (b = wf.heap.size ∨ b = wf.heap.size + 1) → wf.heap.size ≤ b := fun b h => by rcases h with rfl | rfl <;> omega
        have KB := hi.1.1.2
        have HXW := Lib.hid (KB.ownsRow HX.out hbr hS)
        have HSW := KB.blk HS.out hbr hS
        have HMW := KB.blk HM.out hbr hS
        have b0 : W.cell? ⟨wa.heap.size, 0, none⟩ = some (.slice Ax n0 kx) := cell_of_row W wa.heap.size 0 _ _ _ HSW
        have HI := Lib.hid hi
        have HFR := Lib.hid hfr
        have HB2 : Hid (W.heap[Bx]? = some (.cells #[.int .u64 ei, .int .u64 eo, .int .u32 el, .int .u32 er] 26 (0, 0))) := Lib.hid hb
        have HMW := Lib.hid HMW
        have HBW := Lib.hid (KB.blk HB.out hbr hS)
        have HRET := Lib.hid hret
        have HEXIT := Lib.hid hexit
        have HGO := Lib.hid hgo
        clear hi hfr hb HSW KB hS hret hexit hgo xi xf
        unfold roundAct
        simp only [List.setIfInBounds_toArray, List.set_cons_zero, List.set_cons_succ]
        gi_wp2
        refine ⟨trivial, ?_⟩
        refine (CallsIn.inRound l (callsIn_wide.2 (find_any _ _ _ L0 _ _ id (Reads.of_own HXW.out) HN0.out HF0.out (Nat.le_refl _) (by omega)))).mono ?_
        rintro e w5 ⟨he, hb⟩
        obtain rfl := HFR.out _ he
        have hb6 : Below W.heap.size W (w5.alloc (.cells #[.int .u64 ei, .int .u64 eo, .int .u32 el, .int .u32 er] 26)) := hb.trans ((blk_new w5 (.cells #[.int .u64 ei, .int .u64 eo, .int .u32 el, .int .u32 er] 26)).mono hb.size)
        have hi6 := HI.out.below hb6
        have HI6 := Lib.hid hi6
        have hM6 := blk_keep HMW.out hb6
        have hB6 := blk_keep HB2.out hb6
        have mc : (w5.alloc (.cells #[.int .u64 ei, .int .u64 eo, .int .u32 el, .int .u32 er] 26)).cell? ⟨w.heap.size, 0, none⟩ = some (.int .u8 a1) := cell_of_row _ w.heap.size 0 _ _ _ hM6
        obtain ⟨x0c, x1c, x2c, x3c⟩ := blk_cells4 hB6
        obtain ⟨y0c, y1c, y2c, y3c⟩ := blk_cells4 (heap_alloc_new w5 (.cells #[.int .u64 ei, .int .u64 eo, .int .u32 el, .int .u32 er] 26))
        have nc : (w5.alloc (.cells #[.int .u64 ei, .int .u64 eo, .int .u32 el, .int .u32 er] 26)).cell? ⟨wf.heap.size, 0, none⟩ = some (.int .u64 (n : Int)) := cell_of_row _ wf.heap.size 0 _ _ _ hi6.1.1.1.1
        have lc : (w5.alloc (.cells #[.int .u64 ei, .int .u64 eo, .int .u32 el, .int .u32 er] 26)).cell? ⟨wf.heap.size + 1, 0, none⟩ = some (.int .u64 last) := cell_of_row _ (wf.heap.size + 1) 0 _ _ _ hi6.1.1.1.2
        have nf : (w5.alloc (.cells #[.int .u64 ei, .int .u64 eo, .int .u32 el, .int .u32 er] 26)).frozen? ⟨wf.heap.size, 0, none⟩ = false := by have h := hi6.1.1.1.1; simp only [World.frozen?, h]; rfl
        have lf : (w5.alloc (.cells #[.int .u64 ei, .int .u64 eo, .int .u32 el, .int .u32 er] 26)).frozen? ⟨wf.heap.size + 1, 0, none⟩ = false := by have h := hi6.1.1.1.2; simp only [World.frozen?, h]; rfl
        have rc : (w5.alloc (.cells #[.int .u64 ei, .int .u64 eo, .int .u32 el, .int .u32 er] 26)).cell? ⟨w.heap.size + 1, 0, none⟩ = some (.bool false) := cell_of_row _ (w.heap.size + 1) 0 _ _ _ (blk_keep HBW.out hb6)
        have rf : (w5.alloc (.cells #[.int .u64 ei, .int .u64 eo, .int .u32 el, .int .u32 er] 26)).frozen? ⟨w.heap.size + 1, 0, none⟩ = false := by have h := blk_keep HBW.out hb6; simp only [World.frozen?, h]; rfl
        have HB6 := Lib.hid hb6
        have hneq := fun w => neq_ent ei eo el er ei eo el er w
        rw [(En.teq_iff (ei, eo, el, er) (ei, eo, el, er)).2 rfl] at hneq
        simp only [Bool.not_true] at hneq
        have hxr : (er == 0) = false := by have : ¬ er = 0 := by omega
                                           simpa using this
        have hlt1 : w.heap.size + 1 < wf.heap.size := hlt1
        clear hi6 hM6 hB6 he hb hb6
        by_cases hn0 : 0 < n
        · by_cases hil : id ≤ last
          · have HR9 := Lib.hid (HRET.out hn0 hil)
            have hn0' : (0 : Int) < (n : Int) := by omega
            clear HRET HEXIT HGO
            gi_wp2
            refine HR9.out _ _ ?_
            exact (KeepsOthers.of_below HB6.out).trans (KeepsOthers.setCell _ _ _)
          · have hc : ¬ (0 < n ∧ id ≤ last) := fun h => hil h.2
            have hn0' : (0 : Int) < (n : Int) := by omega
            have hil' : last < id := by omega
            by_cases hlim : (n : Int) + 1 = a1 + 100
            · have HR9 := Lib.hid (HEXIT.out hc hlim)
              have hq9 : ((n : Int) + 1 == a1 + 100) = true := by simpa using hlim
              clear HRET HEXIT HGO hlim hc
              gi_wp2
              exact HR9.out _ _ (LoopI.keeps HB6.out (by omega) (by omega) (by omega) (by omega) _ _) (HI6.out.step (by omega) (by omega) (by omega))
            · have HR9 := Lib.hid (HGO.out hc (by omega))
              have hq9 : ((n : Int) + 1 == a1 + 100) = false := by simpa using hlim
              clear HRET HEXIT HGO hlim hc
              gi_wp2
              exact HR9.out _ _ (LoopI.keeps HB6.out (by omega) (by omega) (by omega) (by omega) _ _) (HI6.out.step (by omega) (by omega) (by omega))
        · have hc : ¬ (0 < n ∧ id ≤ last) := fun h => hn0 h.1
          obtain rfl : n = 0 := by omega
          have HR9 := Lib.hid (HGO.out hc (by omega))
          have hq9 : (((0 : Nat) : Int) + 1 == a1 + 100) = false := by have : ¬ ((0 : Nat) : Int) + 1 = a1 + 100 := by omega
                                                                       simpa using this
          clear HRET HEXIT HGO hc
          gi_wp2
          exact HR9.out _ _ (LoopI.keeps HB6.out (by omega) (by omega) (by omega) (by omega) _ _) (HI6.out.step (by omega) (by omega) (by omega))
      case next =>
        intro D1 W1 N last hD1 hi hN hK
        have hbW := hi.1.2
        have hsW := hi.2
        have nc : W1.cell? ⟨wf.heap.size, 0, none⟩ = some (.int .u64 N) := cell_of_row _ wf.heap.size 0 _ _ _ hi.1.1.1.1
        replace HM := Lib.hid (blk_keep2 hbW HM.out)
        replace HB := Lib.hid (blk_keep2 hbW HB.out)
        replace HS := Lib.hid (blk_keep2 hbW HS.out)
        replace HX := Lib.hid (ownsRow_keep HX.out hbW)
        replace HT4 := Lib.hid (ownsRow_keep HT4.out hbW)
        replace HT3 := Lib.hid ((hbW.cell (p := ⟨Bs, 0, none⟩) (by dsimp only; omega)).trans HT3.out)
        replace hw := bthen2 hbW hw
        have HK1 := Lib.hid hK
        have mc : W1.cell? ⟨w.heap.size, 0, none⟩ = some (.int .u8 a1) := cell_of_row W1 w.heap.size 0 _ _ _ HM.out
        rw [← HALL.out] at hN
        have HNN := Lib.hid hN
        have hsz : wf.heap.size + 2 ≤ W1.heap.size := by omega
        clear hi hN hK hbW HQ HNb HLb hbr hg1 hg2 hsW
        obtain rfl : N = 0 := by rw [HNN.out]; split <;> omega
        have hmin : decide (a1 + 100 < 0) = false := decide_eq_false (by omega)
        go_wp2_with fail
        have hDlt := blk_lt HK1.out
        clear nc mc hmin
        rw [rounds_succ]
        go_wp2_with fail
        have hlt0 := hlt1
        replace hlt1 : w.heap.size + 1 < W1.heap.size := by omega
        have hsB : Bs < W1.heap.size := by omega
        have hsA : wa.heap.size + 1 < W1.heap.size := by omega
        obtain ⟨wr2, hwr⟩ : ∃ wr, wr = (W1.alloc (.cells #[.int .u64 0] 22)).alloc (.cells #[.int .u64 0] 22) := ⟨_, rfl⟩
        have hNb : wr2.heap[W1.heap.size]? = some (.cells #[.int .u64 0] 22 (0, 0)) := by rw [hwr]; exact blk_alloc (heap_alloc_new W1 (.cells #[.int .u64 0] 22)) _
        have hLb : wr2.heap[W1.heap.size + 1]? = some (.cells #[.int .u64 0] 22 (0, 0)) := by rw [hwr]; have h := heap_alloc_new (W1.alloc (.cells #[.int .u64 0] 22)) (.cells #[.int .u64 0] 22); rw [World.size_alloc] at h; exact h
        have hbr : Below W1.heap.size W1 wr2 := by rw [hwr]; exact bthen (blk_new _ _) (blk_new _ _)
        have hsr : wr2.heap.size = W1.heap.size + 2 := by rw [hwr]; simp
        rw [← hwr]
        clear hwr
        obtain ⟨gb, hg1, hg2, hseq⟩ := tiles_stops2 Fence.wide 4 trivial rfl (by omega) Bs (wa.heap.size + 1) v (Sk.own L0) wr2 W1 (by omega) ((hbr.cell (p := ⟨Bs, 0, none⟩) (by dsimp only; omega)).trans HT3.out) HT4.out (by omega) hbr (by have := HN0.out; unfold Sk.own; split <;> simp; omega) (Sk.own_fits HF0.out) (Sk.own_sum HF0.out)
        have HQ := Lib.hid hseq
        have HNb := Lib.hid hNb
        have HLb := Lib.hid hLb
        clear hseq hNb hLb
        refine wp_range_seek 11 12 (Bs := Bs) (gb := gb) L0 W1.heap.size (W1.heap.size + 1) W1 (a1 + 100) rfl HQ.out HF0.out (by omega) ⟨⟨⟨⟨HNb.out, HLb.out⟩, KeptBut.refl _ _⟩, hbr⟩, Nat.le_refl _⟩ (by omega) ?assign ?body ?next
        case assign =>
          intro l x W K hK
          gi_wp2
          exact hK
        case body =>
          intro l n last x Bx W Q hi hn hlast hb hret hexit hgo
          obtain ⟨xi, xf, xr, x0, x1⟩ := Sk.ts_found HF0.out x.2
          obtain ⟨⟨id, ei, eo, el, er⟩, hx⟩ := x
          dsimp only at xi xf xr x0 x1 hb hret hexit hgo
          have hfr : ∀ e, FindR L0 id e → e = .returned (.tuple #[.agg #[.int .u64 ei, .int .u64 eo, .int .u32 el, .int .u32 er], .bool true]) := fun e h => by unfold FindR at h; rw [xf, xi] at h; exact h
          have hS : ∀ b, (b = W1.heap.size ∨ b = W1.heap.size + 1) → W1.heap.size ≤ b := fun b h => by rcases h with rfl | rfl <;> omega
          have KB := hi.1.1.2
          have HXW := Lib.hid (KB.ownsRow HX.out hbr hS)
          have HSW := KB.blk HS.out hbr hS
          have HMW := KB.blk HM.out hbr hS
          have b0 : W.cell? ⟨wa.heap.size, 0, none⟩ = some (.slice Ax n0 kx) := cell_of_row W wa.heap.size 0 _ _ _ HSW
          have HI := Lib.hid hi
          have HFR := Lib.hid hfr
          have HB2 : Hid (W.heap[Bx]? = some (.cells #[.int .u64 ei, .int .u64 eo, .int .u32 el, .int .u32 er] 26 (0, 0))) := Lib.hid hb
          have HMW := Lib.hid HMW
          have HBW := Lib.hid (KB.blk HB.out hbr hS)
          have HRET := Lib.hid hret
          have HEXIT := Lib.hid hexit
          have HGO := Lib.hid hgo
          clear hi hfr hb HSW KB hS hret hexit hgo xi xf
          unfold roundAct
          simp only [List.setIfInBounds_toArray, List.set_cons_zero, List.set_cons_succ]
          gi_wp2
          refine ⟨trivial, ?_⟩
          refine (CallsIn.inRound l (callsIn_wide.2 (find_any _ _ _ L0 _ _ id (Reads.of_own HXW.out) HN0.out HF0.out (Nat.le_refl _) (by omega)))).mono ?_
          rintro e w5 ⟨he, hb⟩
          obtain rfl := HFR.out _ he
          have hb6 : Below W.heap.size W (w5.alloc (.cells #[.int .u64 ei, .int .u64 eo, .int .u32 el, .int .u32 er] 26)) := hb.trans ((blk_new w5 (.cells #[.int .u64 ei, .int .u64 eo, .int .u32 el, .int .u32 er] 26)).mono hb.size)
          have hi6 := HI.out.below hb6
          have HI6 := Lib.hid hi6
          have hM6 := blk_keep HMW.out hb6
          have hB6 := blk_keep HB2.out hb6
          have mc : (w5.alloc (.cells #[.int .u64 ei, .int .u64 eo, .int .u32 el, .int .u32 er] 26)).cell? ⟨w.heap.size, 0, none⟩ = some (.int .u8 a1) := cell_of_row _ w.heap.size 0 _ _ _ hM6
          obtain ⟨x0c, x1c, x2c, x3c⟩ := blk_cells4 hB6
          obtain ⟨y0c, y1c, y2c, y3c⟩ := blk_cells4 (heap_alloc_new w5 (.cells #[.int .u64 ei, .int .u64 eo, .int .u32 el, .int .u32 er] 26))
          have nc : (w5.alloc (.cells #[.int .u64 ei, .int .u64 eo, .int .u32 el, .int .u32 er] 26)).cell? ⟨W1.heap.size, 0, none⟩ = some (.int .u64 (n : Int)) := cell_of_row _ W1.heap.size 0 _ _ _ hi6.1.1.1.1
          have lc : (w5.alloc (.cells #[.int .u64 ei, .int .u64 eo, .int .u32 el, .int .u32 er] 26)).cell? ⟨W1.heap.size + 1, 0, none⟩ = some (.int .u64 last) := cell_of_row _ (W1.heap.size + 1) 0 _ _ _ hi6.1.1.1.2
          have nf : (w5.alloc (.cells #[.int .u64 ei, .int .u64 eo, .int .u32 el, .int .u32 er] 26)).frozen? ⟨W1.heap.size, 0, none⟩ = false := by have h := hi6.1.1.1.1; simp only [World.frozen?, h]; rfl
          have lf : (w5.alloc (.cells #[.int .u64 ei, .int .u64 eo, .int .u32 el, .int .u32 er] 26)).frozen? ⟨W1.heap.size + 1, 0, none⟩ = false := by have h := hi6.1.1.1.2; simp only [World.frozen?, h]; rfl
          have rc : (w5.alloc (.cells #[.int .u64 ei, .int .u64 eo, .int .u32 el, .int .u32 er] 26)).cell? ⟨w.heap.size + 1, 0, none⟩ = some (.bool false) := cell_of_row _ (w.heap.size + 1) 0 _ _ _ (blk_keep HBW.out hb6)
          have rf : (w5.alloc (.cells #[.int .u64 ei, .int .u64 eo, .int .u32 el, .int .u32 er] 26)).frozen? ⟨w.heap.size + 1, 0, none⟩ = false := by have h := blk_keep HBW.out hb6; simp only [World.frozen?, h]; rfl
          have HB6 := Lib.hid hb6
          have hneq := fun w => neq_ent ei eo el er ei eo el er w
          rw [(En.teq_iff (ei, eo, el, er) (ei, eo, el, er)).2 rfl] at hneq
          simp only [Bool.not_true] at hneq
          have hxr : (er == 0) = false := by have : ¬ er = 0 := by omega
                                             simpa using this
          have hlt1 : w.heap.size + 1 < W1.heap.size := hlt1
          clear hi6 hM6 hB6 he hb hb6
          by_cases hn0 : 0 < n
          · by_cases hil : id ≤ last
            · have HR9 := Lib.hid (HRET.out hn0 hil)
              have hn0' : (0 : Int) < (n : Int) := by omega
              clear HRET HEXIT HGO
              gi_wp2
              refine HR9.out _ _ ?_
              exact (KeepsOthers.of_below HB6.out).trans (KeepsOthers.setCell _ _ _)
            · have hc : ¬ (0 < n ∧ id ≤ last) := fun h => hil h.2
              have hn0' : (0 : Int) < (n : Int) := by omega
              have hil' : last < id := by omega
              by_cases hlim : (n : Int) + 1 = a1 + 100
              · have HR9 := Lib.hid (HEXIT.out hc hlim)
                have hq9 : ((n : Int) + 1 == a1 + 100) = true := by simpa using hlim
                clear HRET HEXIT HGO hlim hc
                gi_wp2
                exact HR9.out _ _ (LoopI.keeps HB6.out (by omega) (by omega) (by omega) (by omega) _ _) (HI6.out.step (by omega) (by omega) (by omega))
              · have HR9 := Lib.hid (HGO.out hc (by omega))
                have hq9 : ((n : Int) + 1 == a1 + 100) = false := by simpa using hlim
                clear HRET HEXIT HGO hlim hc
                gi_wp2
                exact HR9.out _ _ (LoopI.keeps HB6.out (by omega) (by omega) (by omega) (by omega) _ _) (HI6.out.step (by omega) (by omega) (by omega))
          · have hc : ¬ (0 < n ∧ id ≤ last) := fun h => hn0 h.1
            obtain rfl : n = 0 := by omega
            have HR9 := Lib.hid (HGO.out hc (by omega))
            have hq9 : (((0 : Nat) : Int) + 1 == a1 + 100) = false := by have : ¬ ((0 : Nat) : Int) + 1 = a1 + 100 := by omega
                                                                         simpa using this
            clear HRET HEXIT HGO hc
            gi_wp2
            exact HR9.out _ _ (LoopI.keeps HB6.out (by omega) (by omega) (by omega) (by omega) _ _) (HI6.out.step (by omega) (by omega) (by omega))
        case next =>
          intro D2 W2 N last hD2 hi hN hK
          have hbW := hi.1.2
          have hsW := hi.2
          have nc : W2.cell? ⟨W1.heap.size, 0, none⟩ = some (.int .u64 N) := cell_of_row _ W1.heap.size 0 _ _ _ hi.1.1.1.1
          replace HM := Lib.hid (blk_keep2 hbW HM.out)
          replace HB := Lib.hid (blk_keep2 hbW HB.out)
          replace HS := Lib.hid (blk_keep2 hbW HS.out)
          replace HX := Lib.hid (ownsRow_keep HX.out hbW)
          replace HT4 := Lib.hid (ownsRow_keep HT4.out hbW)
          replace HT3 := Lib.hid ((hbW.cell (p := ⟨Bs, 0, none⟩) (by dsimp only; omega)).trans HT3.out)
          replace hw := bthen2 hbW hw
          replace HK1 := Lib.hid (blk_keep2 hbW HK1.out)
          have HK2 := Lib.hid hK
          have mc : W2.cell? ⟨w.heap.size, 0, none⟩ = some (.int .u8 a1) := cell_of_row W2 w.heap.size 0 _ _ _ HM.out
          rw [← HALL.out] at hN
          have HNN := Lib.hid hN
          have hsz : W1.heap.size + 2 ≤ W2.heap.size := by omega
          clear hi hN hK hbW HQ HNb HLb hbr hg1 hg2 hsW
          obtain rfl : N = 0 := by rw [HNN.out]; split <;> omega
          have hmin : decide (a1 + 100 < 0) = false := decide_eq_false (by omega)
          go_wp2_with fail
          clear nc mc hmin
          rw [rounds_succ]
          go_wp2_with fail
          refine (awake09 _).mono ?_; rintro e wz ⟨rfl, hb⟩
          replace HB := Lib.hid (blk_keep2 hb HB.out)
          replace HK1 := Lib.hid (blk_keep2 hb HK1.out)
          replace HK2 := Lib.hid (blk_keep2 hb HK2.out)
          replace hw := bthen2 hb hw
          clear hb
          have c1 : wz.cell? ⟨w.heap.size + 1, 0, none⟩ = some (.bool false) := cell_of_row wz (w.heap.size + 1) 0 _ _ _ HB.out
          have f1 : wz.frozen? ⟨w.heap.size + 1, 0, none⟩ = false := by have h := HB.out; simp only [World.frozen?, h]; rfl
          go_wp2_with fail
          have hK2 := (KeepsOthers.setCell wz ⟨w.heap.size + 1, 0, none⟩ (.bool true)).same D2 _ HK2.out rfl
          have hK1 := (KeepsOthers.setCell wz ⟨w.heap.size + 1, 0, none⟩ (.bool true)).same D1 _ HK1.out rfl
          have hc1 := World.cell?_setCell_same' wz ⟨w.heap.size + 1, 0, none⟩ (.bool true) (by rw [c1]; rfl)
          obtain ⟨wy, hwy⟩ : ∃ wy, wy = wz.setCell ⟨w.heap.size + 1, 0, none⟩ (.bool true) := ⟨_, rfl⟩
          replace hw : Below w.heap.size w wy := by rw [hwy]; exact hw.setCell (by dsimp only; omega) _
          rw [← hwy] at hK2 hK1 hc1 ⊢
          clear hwy c1 f1
          have hK1' := (World.putObj_heap_other (w := wy) (o := .deferred none) (by omega : D1 ≠ D2)).trans hK1
          have hc2 := cell_kept hc1 (grownBy_putObj' wy D2 (.deferred none)) (fun r e => by cases e; exact ⟨_, hK2, rfl⟩)
          have hc3 := cell_kept hc2 (grownBy_putObj' _ D1 (.deferred none)) (fun r e => by cases e; exact ⟨_, hK1', rfl⟩)
          refine ⟨by simp, .inl ⟨D2, _, rfl, run_takeDeferred hK2, ?_⟩⟩
          refine ⟨by simp, .inl ⟨D1, _, rfl, run_takeDeferred hK1', ?_⟩⟩
          exact ⟨.bool true, by simp [results, Try.f10, go_sem, hc3], rfl, (hw.trans (belowK_b (w := w) (Nat.le_refl _) _ D2 _ _ (by omega) hK2 rfl rfl)).trans (belowK_b (w := w) (Nat.le_refl _) _ D1 _ _ (by omega) hK1' rfl rfl)⟩

set_option maxRecDepth 100000 in
set_option maxHeartbeats 1000000 in
theorem lifted (os : Os) (started : os.Started) (H : Type) (enc : TypeId × Value → H) :
    ReturnsInHanded {} Try.checked os 10 .any (Rows.seekTilesSpec.pre6 enc Try.prog Try.f10 Rows.seekTilesRow.domain false) (Rows.seekTilesSpec.post enc Try.prog Try.f10 false true false false) := by
  refine returnsInHanded_of_change_sized (C := Try.checked) own_ started (by kernel_rfl) Try.func10
    (ChangeSpec.witness6 (enc := enc) (C := Try.checked) false ⟨#[], #[.slice none 0 0, .int .u8 0], []⟩ 8 (by kernel_rfl) (by kernel_rfl) (by kernel_rfl) (by kernel_rfl)) ?_
  intro W base args ds gs before hval0 hW hcnd hsz0 _
  have hval : ∀ (j : Nat) t v, Try.f10.params[j]? = some t → args[j]? = some v → Value.okWide Try.prog W .any base t v := hval0
  have hW' := hW
  obtain ⟨p, q, hA0, hV, e0, hfz, hnd⟩ := hW
  clear e0 hfz hnd hcnd
  have hA : DataW.TrodAll enc Try.prog W 0 (fun _ => true) true Try.f10.params.toList args.toList ds p := hA0
  have hsz : (DataW.weightsEach Try.prog (Try.f10.params.toList ++ Rows.seekTilesSpec.plain.varTypes Try.prog) (ds ++ gs)).all (· ≤ reachBytes) = true := hsz0
  rw [Try.params10] at hA hval hsz
  obtain ⟨v0, vs0, d0, ds0, p0, q0, hargs, rfl, e0, h0, rr0⟩ := trodAll_cons hA
  obtain ⟨v1, vs1, d1, ds1, p1, q1, rfl, rfl, e1, h1, rr1⟩ := trodAll_cons rr0
  obtain ⟨rfl, rfl, eN⟩ := trodAll_nil rr1
  obtain rfl : args = #[v0, v1] := by cases args; simp_all
  obtain ⟨A0, n0, c0, L0, rfl, hr0, hn0, hf0, hm0, hc0⟩ := open_ents Try.underlying35 Try.underlying25 (by kernel_rfl) (by kernel_rfl) (by kernel_rfl) rfl rfl rfl rfl Try.underlying22 Try.underlying23 (hval 0 35 v0 rfl rfl) h0 (fun elems spare hd => sized_slice hsz (j := 0) rfl (by rw [hd]; rfl) Try.underlying35)
  obtain ⟨a1, rfl, _, _, w1⟩ := open_int Try.underlying5 (hval 1 5 v1 rfl rfl) h1
  refine (walk W A0 n0 c0 L0 hr0 hn0 hf0 hm0 hc0 a1 w1).mono fun e W' ⟨he, hb⟩ => ?_
  subst he
  exact ⟨_, rfl, law_post laid_ (by kernel_rfl) hW' rfl rfl (by kernel_rfl) Try.underlying4 hb⟩

theorem over : Rows.seekTilesRow.holds Try.pinned (OpenSpec.ofChange Rows.seekTilesSpec) :=
  OpenClaim.holds_of_wide 10 Try.f10 rfl rfl rfl rfl rfl rfl rfl ⟨rfl, rfl, rfl, rfl, rfl⟩ rfl rfl rfl rfl rfl (by kernel_rfl) Try.func10 (by kernel_rfl)
    (of_decide_eq_true (by kernel_rfl)) (by unfold Func.isWrapper; first | (rw [if_pos (by decide +kernel)]; kernel_rfl) | (rw [if_neg (by decide +kernel)]; exact ⟨rfl, rfl⟩))
    (fun os started H enc _ => lifted os started H enc)

theorem proved : Rows.SeekTilesSaid := over
end Go.Proofs.Ytppciejcobmikaa.seekTiles
