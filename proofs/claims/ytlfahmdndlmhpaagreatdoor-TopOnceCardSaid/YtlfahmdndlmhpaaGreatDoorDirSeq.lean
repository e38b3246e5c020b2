/- The walks of a directory's numbers, as an iterator. -/
import Derived.Test.YtlfahmdndlmhpaaGreatDoorM28
import Derived.Test.YtlfahmdndlmhpaaGreatDoorRange
import Derived.Test.YtlfahmdndlmhpaaGreatDoorM09
import Derived.Test.YtlfahmdndlmhpaaGreatDoorM12
import Derived.Shelf.Abstract
import Derived.Shelf.RegionOpen
import Derived.OwnWalkIn
import Derived.TacticsInMore
import Derived.LoopNIn
import Derived.LoopIn
namespace Go.Proofs.YtlfahmdndlmhpaaGreatDoor
open Go.RowKit Go.Shelf

/-- cells of entries -/
def isE : Obj → Bool
  | .cells _ t _ => t == 43
  | _ => false
/-- what the rounds keep -/
structure Nk (D b5 : Nat) (X Y : World) : Prop where
  size : X.heap.size ≤ Y.heap.size
  same : ∀ (k : Nat) (o : Obj), X.heap[k]? = some o → ((k < D ∧ k ≠ b5) ∨ isE o = true) → Y.heap[k]? = some o
/-- what the iterator keeps -/
structure Na (B : Nat) (X Y : World) : Prop where
  os : Y.os = X.os
  tape : Y.tape = X.tape
  output : Y.output = X.output
  size : X.heap.size ≤ Y.heap.size
  same : ∀ (k : Nat) (o : Obj), X.heap[k]? = some o → (k < B ∨ isE o = false) → Y.heap[k]? = some o
theorem Nk.trans {D b5 : Nat} {A B C : World} (h : Nk D b5 A B) (k : Nk D b5 B C) : Nk D b5 A C := ⟨Nat.le_trans h.size k.size, fun i o hi hq => k.same i o (h.same i o hi hq) hq⟩
theorem Na.of_below {B : Nat} {X Y : World} (h : Below X.heap.size X Y) : Na B X Y := ⟨h.os, h.tape, h.output, h.size, fun _ _ hk _ => blk_keep hk h⟩
theorem Na.set {B : Nat} {X : World} {g i : Nat} {v : Value} {cs : Array Value} {fr : Nat × Nat} (hg : X.heap[g]? = some (.cells cs 43 fr)) (hB : B ≤ g) : Na B X (X.setCell ⟨g, i, none⟩ v) :=
  ⟨rfl, rfl, rfl, by simp, fun k o hk hq => set_far hk (fun e => by
    subst e
    rcases hq with h | h
    · omega
    · rw [hg] at hk; cases hk; simp [isE] at h)⟩
theorem Na.trans {b : Nat} {A B C : World} (h : Na b A B) (k : Na b B C) : Na b A C := ⟨k.os.trans h.os, k.tape.trans h.tape, k.output.trans h.output, Nat.le_trans h.size k.size, fun i o hi hq => k.same i o (h.same i o hi hq) hq⟩
theorem Reads.nk {D b5 B n size : Nat} {X Y : World} {A : Option Addr} {xs : List Value} (h : Reads X B size A n xs) (k : Nk D b5 X Y) (hX : D ≤ X.heap.size) (hB : B ≤ D) (h5 : B ≤ b5) : Reads Y B size A n xs := by
  refine h.keep fun p hp => World.cell?_of_block ?_
  have hlt : p.block < X.heap.size := by omega
  obtain ⟨o, ho⟩ : ∃ o, X.heap[p.block]? = some o := ⟨_, Array.getElem?_eq_getElem hlt⟩
  rw [ho]
  exact k.same _ _ ho (Or.inl ⟨by omega, by omega⟩)
def nEnc (x : Int) : Array Value := #[.int .u64 x]
attribute [local go_sem] Oper.semAt_some
set_option maxRecDepth 100000 in
set_option maxHeartbeats 4000000 in
theorem nums_seq (A : Option Addr) (cap : Nat) (L : List Ent) (Bs B b5 : Nat) (w : World) (hL : En.fine L) (hf : En.fits L) (hl : L.length ≤ 4096)
    (hBs : w.heap[Bs]? = some (.cells #[.slice A L.length cap] 35 (0, 0))) (hBs5 : Bs ≠ b5) (hr : Reads w B 4 A L.length (ecells L)) (hB : B ≤ w.heap.size) (hB5 : B ≤ b5) :
    Rg.Seq Tryz.prog 82 #[.pointer (some ⟨Bs, 0, none⟩)] nEnc (Dr.nums L) (Nk w.heap.size b5) Na w := by
  intro l J W hbW hJ hY h0
  have HY := Lib.hid hY
  have HJ := Lib.hid hJ
  have HLF := Lib.hid (And.intro hL hf)
  have HB1 := Lib.hid ((hbW.block Bs (blk_lt hBs)).trans hBs)
  have HR1 := Lib.hid (hr.below (hbW.mono hB))
  have H0 := Lib.hid h0
  have hDW := hbW.size
  have hBsD := blk_lt hBs
  clear hY hJ hL hf hBs hr h0
  obtain ⟨fn, tmps, assign, body, hy, hR⟩ := HY.out 0 _ W (Dr.nums_zero L) H0.out
  dsimp only [nEnc] at hy
  have HR := Lib.hid hR
  have c0 := cell_of_row W Bs 0 _ _ _ HB1.out
  clear hR
  refine callsIn_of_wp Tryz.func82 rfl trivial ?_ rfl
  simp only [Tryz.ntmps82, List.size_toArray, List.length_cons, List.length_nil, Nat.reduceAdd, Nat.reduceSub, Array.replicate_succ, Array.replicate_zero, List.push_toArray, List.append_toArray, List.nil_append, List.cons_append]
  gi_wp2
  refine HR.out.mono ?_
  rintro e W1 ⟨rfl, hJ1, hK1⟩
  have HJ1 := Lib.hid hJ1
  have HB2 := Lib.hid (hK1.same _ _ HB1.out (Or.inl ⟨hBsD, hBs5⟩))
  have HR2 := Lib.hid (HR1.out.nk hK1 hDW hB hB5)
  have hD1 : w.heap.size ≤ W1.heap.size := Nat.le_trans hDW hK1.size
  have hW1 : W.heap.size ≤ W1.heap.size := hK1.size
  clear hJ1 hK1 c0 hy HR
  gi_wp2
  gi_loopw [13] (fun cc wr => ∃ c : Nat, c ≤ 4 ∧ cc = .int .i64 c ∧ Hid (J (1 + c * L.length) wr) ∧ Hid (wr.heap[Bs]? = some (.cells #[.slice A L.length cap] 35 (0, 0))) ∧ Hid (Reads wr B 4 A L.length (ecells L)) ∧ W.heap.size ≤ wr.heap.size) (fun cc _ => 4 - (intOf cc).toNat)
  case atStart => exact ⟨0, by omega, rfl, Lib.hid (by rw [Nat.zero_mul]; exact HJ1.out), HB2, HR2, hW1⟩
  case round =>
    obtain ⟨c, hc, rfl, HJ2, HB3, HR3, hW2⟩ := hrel
    by_cases hc4 : c < 4
    · obtain ⟨wo, hwo⟩ : ∃ wo : World, wo = wr := ⟨_, rfl⟩
      subst hwo
      have hd4 : decide ((c : Int) < 4) = true := decide_eq_true (by omega)
      have c0 := cell_of_row wo Bs 0 _ _ _ HB3.out
      have hz := blk_lt HB3.out
      gi_wp2
      clear c0
      gi_loopw [18] (fun ci wr => ∃ i : Nat, i ≤ L.length ∧ ci = .int .i64 i ∧ Hid (J (1 + (c * L.length + i)) wr) ∧ Hid (wr.heap[Bs]? = some (.cells #[.slice A L.length cap] 35 (0, 0))) ∧ Hid (Reads wr B 4 A L.length (ecells L)) ∧ Hid (wr.heap[wo.heap.size]? = some (.cells (En.vals (Dr.ahead L i)).toArray 43 (0, 0)))) (fun ci _ => L.length - (intOf ci).toNat)
      case atStart => exact ⟨0, by omega, rfl, Lib.hid (HJ.out _ _ _ HJ2.out (Na.of_below (blk_new wo _))), Lib.hid (blk_alloc HB3.out _), Lib.hid (HR3.out.alloc (by omega) _), Lib.hid (heap_alloc_new wo _)⟩
      case round =>
        obtain ⟨i, hi, rfl, HJ4, HB4, HR4, HA4⟩ := hrel
        have hz4 := blk_lt HA4.out
        by_cases hlt : i < L.length
        · obtain ⟨g, off, rfl, hgB⟩ := HR4.out.plain (by omega) rfl
          obtain ⟨hL, hf⟩ := HLF.out
          obtain ⟨c0, c1, c2, c3⟩ := HR4.out.ent rfl i hlt
          have hal := Dr.ahead_le hL hf i hlt
          have hg := hf _ (List.getElem_mem hlt)
          have hes := En.ck_end (hL.c i hlt)
          have hat : Dr.at_ L c i = Dr.num c i (Dr.ahead L i) (L[i]'hlt) := by unfold Dr.at_; rw [Dr.getD_at L i hlt]
          have hsu := Dr.ahead_succ L i hlt
          have hnu := Dr.nums_at L c i hc4 hlt
          obtain ⟨⟨ei, eo, el, er⟩, he⟩ : ∃ e, e = L[i]'hlt := ⟨_, rfl⟩
          rw [← he] at c0 c1 c2 c3 hal hg hes hat hsu
          obtain ⟨⟨ai, ao, al, ar⟩, hah⟩ : ∃ e, e = Dr.ahead L i := ⟨_, rfl⟩
          rw [← hah] at hal hat HA4
          rw [hat] at hnu
          obtain ⟨hle, _, hag, has⟩ := hal
          have HAG := Lib.hid (show En.fit ai ao al ar from hag)
          have HEG := Lib.hid (show En.fit ei eo el er from hg)
          have hle' : ai ≤ ei := hle
          have has' : ao + al ≤ 1099511627776 := has
          have hes' : eo ≤ 1099511627776 := by
            have h1 : eo + el ≤ 1099511627776 := hes
            obtain ⟨_, _, ⟨l0, _⟩, _⟩ := hg
            have h2 : 0 ≤ el := l0
            omega
          have HNU := Lib.hid hnu
          have HSU := Lib.hid hsu
          have hzr : Bs < wr.heap.size := blk_lt HB4.out
          obtain ⟨a0, a1, a2, a3⟩ := blk_cells4 HA4.out
          clear hL hf hg hes hat hsu hnu he hah hle hag has
          gi_wp2
          refine ⟨trivial, ?_⟩
          refine (callsIn_wide.2 (number_any c i ai ao al ar ei eo el er hc4 (by omega) HAG.out HEG.out hle' has' hes' _)).mono ?_
          rintro e W2 ⟨rfl, hb2⟩
          have hb3 := bthen (blk_new wr (.cells #[.int .u64 ei, .int .u64 eo, .int .u32 el, .int .u32 er] 43)) hb2
          have HE5 := Lib.hid (blk_keep2 hb2 (heap_alloc_new wr (.cells #[.int .u64 ei, .int .u64 eo, .int .u32 el, .int .u32 er] 43)))
          have HA5 := Lib.hid (blk_keep2 hb3 HA4.out)
          have HB5 := Lib.hid (blk_keep2 hb3 HB4.out)
          have HR5 := Lib.hid (reads_keep2 hb3 (by omega) HR4.out)
          have HJ5 := Lib.hid (HJ.out _ _ _ HJ4.out (Na.of_below hb3))
          have hz5 := hb3.size
          obtain ⟨fn2, tmps2, assign2, body2, hy2, hR2⟩ := HY.out _ _ W2 HNU.out HJ5.out
          dsimp only [nEnc] at hy2
          have HRR := Lib.hid hR2
          clear hR2 a0 a1 a2 a3 c0 c1 c2 c3 hb2 hb3
          gi_wp2
          refine HRR.out.mono ?_
          rintro e W3 ⟨rfl, hJ6, hK6⟩
          have HJ6 := Lib.hid hJ6
          have HE6 := Lib.hid (hK6.same _ _ HE5.out (Or.inr rfl))
          have HA6 := Lib.hid (hK6.same _ _ HA5.out (Or.inr rfl))
          have HB6 := Lib.hid (hK6.same _ _ HB5.out (Or.inl ⟨hBsD, hBs5⟩))
          have HR6 := Lib.hid (HR5.out.nk hK6 (by omega) hB hB5)
          obtain ⟨e0, e1, e2, e3⟩ := blk_cells4 HE6.out
          obtain ⟨a0, a1, a2, a3⟩ := blk_cells4 HA6.out
          have f0 : W3.frozen? ⟨wo.heap.size, 0, none⟩ = false := by simp [World.frozen?, HA6.out]
          have f1 : W3.frozen? ⟨wo.heap.size, 1, none⟩ = false := by simp [World.frozen?, HA6.out]
          have f2 : W3.frozen? ⟨wo.heap.size, 2, none⟩ = false := by simp [World.frozen?, HA6.out]
          have f3 : W3.frozen? ⟨wo.heap.size, 3, none⟩ = false := by simp [World.frozen?, HA6.out]
          clear hJ6 hK6 hy2
          gi_wp2
          have hBo : B ≤ wo.heap.size := by omega
          have hne : Bs ≠ wo.heap.size := by omega
          have s1 := set_blk (i := 0) (u := .int .u64 ei) HA6.out
          have s2 := set_blk (i := 1) (u := .int .u64 eo) s1
          have s3 := set_blk (i := 2) (u := .int .u32 el) s2
          have s4 := set_blk (i := 3) (u := .int .u32 er) s3
          have hNA := (((Na.set (B := W.heap.size) (i := 0) (v := .int .u64 ei) HA6.out hW2).trans (Na.set (i := 1) (v := .int .u64 eo) s1 hW2)).trans (Na.set (i := 2) (v := .int .u32 el) s2 hW2)).trans (Na.set (i := 3) (v := .int .u32 er) s3 hW2)
          have HJ7 := Lib.hid (HJ.out _ _ _ HJ6.out hNA)
          rw [show 1 + (c * L.length + i) + 1 = 1 + (c * L.length + (i + 1)) by omega] at HJ7
          have HS4 := Lib.hid (s4.trans (by rw [HSU.out]; rfl : _ = some (.cells (En.vals (Dr.ahead L (i + 1))).toArray 43 (0, 0))))
          exact ⟨⟨i + 1, by omega, by go_num, HJ7, Lib.hid (set_far (set_far (set_far (set_far HB6.out hne) hne) hne) hne), Lib.hid ((((HR6.out.setCell hBo _).setCell hBo _).setCell hBo _).setCell hBo _), HS4⟩, by simp [intOf]; omega⟩
        · obtain rfl : i = L.length := by omega
          have HJ7 : Hid (J (1 + (c + 1) * L.length) wr) := Lib.hid (by rw [Nat.add_mul, Nat.one_mul]; exact HJ4.out)
          have hW3 : W.heap.size ≤ wr.heap.size := by omega
          gi_wp2
          exact ⟨⟨c + 1, by omega, by go_num, HJ7, HB4, HR4, hW3⟩, by simp [intOf]; omega⟩
    · obtain rfl : c = 4 := by omega
      have HZ : Hid (J (Dr.nums L).length wr) := Lib.hid (by rw [Dr.nums_len]; exact HJ2.out)
      gi_wp2
      go_end0
      exact ⟨⟨_, rfl⟩, HZ.out⟩
end Go.Proofs.YtlfahmdndlmhpaaGreatDoor
