/- The walks of a directory's numbers (the maker), Size and Encode. The walks of slices.Chunk at entries: the maker and the iterator. -/
import Derived.Test.YtlfahmdndlmhpaaGreatDoorDirSeq
import Derived.Test.YtlfahmdndlmhpaaGreatDoorVarSize
import Derived.Test.YtlfahmdndlmhpaaGreatDoorM23
import Derived.Test.YtlfahmdndlmhpaaGreatDoorM10
import Derived.Test.YtlfahmdndlmhpaaGreatDoorM11
import Derived.Test.YtlfahmdndlmhpaaGreatDoorM36
namespace Go.Proofs.YtlfahmdndlmhpaaGreatDoor
open Go.RowKit Go.Shelf

theorem Na.below {B0 B : Nat} {X Y w0 : World} (h : Na B X Y) (hb : Below B0 w0 X) (hB : B0 ≤ B) (h0 : B0 ≤ w0.heap.size) : Below B0 w0 Y :=
  ⟨h.os.trans hb.os, h.tape.trans hb.tape, h.output.trans hb.output, Nat.le_trans hb.size h.size, fun k hk => by
    have hk2 : k < X.heap.size := Nat.lt_of_lt_of_le (Nat.lt_of_lt_of_le hk h0) hb.size
    rw [← hb.block k hk]
    exact (h.same k _ (Array.getElem?_eq_getElem hk2) (Or.inl (by omega))).trans (Array.getElem?_eq_getElem hk2).symm⟩
theorem Nk.set {D b5 i : Nat} {X : World} {o : Obj} {v : Value} (h : X.heap[b5]? = some o) (ho : isE o = false) : Nk D b5 X (X.setCell ⟨b5, i, none⟩ v) :=
  ⟨by simp, fun k p hk hq => set_far hk (fun e => by
    subst e
    rcases hq with h1 | h1
    · exact h1.2 rfl
    · rw [h] at hk; cases hk; rw [ho] at h1; cases h1)⟩
theorem Nk.drew {D b5 : Nat} {X Y : World} (h : Nk D b5 X Y) : Nk D b5 X Y.drew := ⟨h.size, h.same⟩
theorem Keeps.drew' {X Y : World} (h : Rg.Keeps X Y) : Rg.Keeps X Y.drew := h.trans (Rg.Keeps.drew Y)
theorem put_below {B0 k : Nat} {X w0 : World} {o : Obj} (hb : Below B0 w0 X) (hk : B0 ≤ k) : Below B0 w0 (X.putObj k o) :=
  ⟨hb.os, hb.tape, hb.output, by simpa [World.putObj] using hb.size, fun j hj => (World.putObj_heap_other (by omega)).trans (hb.block j hj)⟩
theorem Rg.own_not {o : Obj} (h : Rg.own o = true) : isE o = false := by cases o <;> first | rfl | cases h
def NumsPost (v : Value) (w : World) (e : Ending) (w' : World) : Prop := e = .returned (.func (.func 82) #[] #[.pointer (some ⟨w.heap.size, 0, none⟩)]) ∧ w'.heap[w.heap.size]? = some (.cells #[v] 35 (0, 0)) ∧ Below w.heap.size w w'
theorem nums_any (A : Option Addr) (n cap : Nat) (w : World) : Calls Tryz.prog 50 #[.slice A n cap] w (NumsPost (.slice A n cap) w) := by
  go_enter Tryz.func50, Tryz.ntmps50
  go_wp2_with fail
  go_ret
  exact ⟨rfl, heap_alloc_new w _, blk_new _ _⟩
def Dr.sz (L : List Ent) (i : Nat) : Int := (((Dr.nums L).take i).map Vi.sz).sum
theorem Dr.sz_succ (L : List Ent) (i : Nat) (x : Int) (h : (Dr.nums L)[i]? = some x) : Dr.sz L (i + 1) = Dr.sz L i + Vi.sz x := by
  have h1 : i < (Dr.nums L).length := (List.getElem?_eq_some_iff.1 h).1
  have h2 : (Dr.nums L)[i]'h1 = x := (List.getElem?_eq_some_iff.1 h).2
  unfold Dr.sz
  rw [take_snoc _ i h1, List.map_append, List.sum_append, h2]
  simp
theorem Dr.sz_all (L : List Ent) : Dr.sz L (Dr.nums L).length = ((Dr.enc L).length : Int) := by
  unfold Dr.sz Dr.enc
  rw [List.take_length]
  generalize Dr.nums L = l
  induction l with
  | nil => rfl
  | cons x l ih =>
    rw [List.map_cons, List.sum_cons, ih, Vi.all_cons, List.length_append]
    unfold Vi.sz
    omega
theorem Dr.sz_le (L : List Ent) (i : Nat) : 0 ≤ Dr.sz L i ∧ Dr.sz L i ≤ 10 * (i : Int) := by
  induction i with
  | zero => simp [Dr.sz]
  | succ i ih =>
    rcases Nat.lt_or_ge i (Dr.nums L).length with h | h
    · rw [Dr.sz_succ L i _ (List.getElem?_eq_getElem h)]
      have := Vi.sz_bd ((Dr.nums L)[i]'h)
      omega
    · have e : Dr.sz L (i + 1) = Dr.sz L i := by unfold Dr.sz; rw [List.take_of_length_le h, List.take_of_length_le (by omega)]
      rw [e]; omega
/-- what the loop in Size keeps -/
def SzI (L : List Ent) (B b : Nat) (w : World) (i : Nat) (X : World) : Prop := X.heap[b]? = some (.cells #[.int .i64 (Dr.sz L i)] 3 (0, 0)) ∧ Below B w X
attribute [local go_sem] Oper.semAt_some
set_option maxRecDepth 100000 in
set_option maxHeartbeats 4000000 in
theorem dsize_any (A : Option Addr) (cap : Nat) (L : List Ent) (B : Nat) (w : World) (hL : En.fine L) (hf : En.fits L) (hl : L.length ≤ 4096) (hr : Reads w B 4 A L.length (ecells L)) (hB : B ≤ w.heap.size) :
    Calls Tryz.prog 47 #[.slice A L.length cap] w fun e w' => e = .returned (.int .i64 ((Dr.enc L).length : Int)) ∧ Below w.heap.size w w' := by
  have HR := Lib.hid hr
  have HLF := Lib.hid (And.intro hL hf)
  have HROW := Lib.hid (En.fine_row hL hf hl)
  have HF := Lib.hid hf
  clear hr hL hf
  refine calls_of_wp_marks Tryz.func47 rfl ?_
  simp only [Tryz.ntmps47, List.size_toArray, List.length_cons, List.length_nil, Nat.reduceAdd, Nat.reduceSub, Array.replicate_succ, Array.replicate_zero, List.push_toArray, List.append_toArray, List.nil_append, List.cons_append]
  go_wp2_with fail
  refine (row_any A L.length cap L B _ HR.out rfl HF.out hB (by omega)).mono ?_; rintro e w1 ⟨he, hb1⟩
  rw [HROW.out] at he
  subst he
  have HR1 := Lib.hid (HR.out.below (hb1.mono hB))
  have hsz1 := hb1.size
  go_wp2_with fail
  refine (nums_any A L.length cap _).mono ?_; rintro e w2 ⟨rfl, hB2, hb2⟩
  have HV2 := Lib.hid (blk_keep2 hb2 (heap_alloc_new w1 (.cells #[.int .i64 0] 3)))
  have hsz2 := blk_lt hB2
  have hw2 := bthen (blk_new1 hb1 _) hb2
  rw [World.size_alloc] at hB2 hsz2
  have HB2 := Lib.hid hB2
  have HR2 := Lib.hid (HR1.out.below (((blk_new w1 (.cells #[.int .i64 0] 3)).trans (hb2.mono (by simp))).mono (by omega)))
  clear hB2 hb2
  go_wp2_with fail
  have hseq := nums_seq A cap L (w1.heap.size + 1) B w1.heap.size w2 HLF.out.1 HLF.out.2 hl HB2.out (by omega) HR2.out (by omega) (by omega)
  have HSEQ := Lib.hid hseq
  clear hseq
  refine wp_rangeGo (a1 := ?a1) (I := SzI L w.heap.size w1.heap.size w) (hseq := HSEQ.out) rfl (fun _ _ => rfl) ?hAo (fun h k => h.trans k) ?hKo ?hps ?hIa ?hIo ?hIn ?h0 ?hassign ?hbody ?hdone
  case hassign =>
    intro l x W K hK
    simp only [nEnc, List.zip_toArray, List.zip_cons_cons, List.zip_nil_right, List.foldl_toArray, List.foldl_cons, List.foldl_nil, List.setIfInBounds_toArray, List.set_cons_succ, List.set_cons_zero]
    gi_wp2
    exact hK
  case hps => intro x; rfl
  case hAo => exact fun B X Y k o h hk ho => h.same k o hk (Or.inr (Rg.own_not ho))
  case hKo =>
    intro X k o o' hk ho hw
    refine ⟨by simp [World.putObj], fun j p hj hq => ?_⟩
    have hne : j ≠ k := fun e => by
      subst e
      rw [ho] at hj
      cases hj
      rcases hq with h | h
      · omega
      · rw [Rg.own_not hw] at h; cases h
    exact (World.putObj_heap_other (by omega)).trans hj
  case hIa => exact fun B i X Y hB hI hA => ⟨hA.same _ _ hI.1 (Or.inr rfl), hA.below hI.2 (by omega) (Nat.le_refl _)⟩
  case hIo => exact fun i X k o o' hk _ _ hI => ⟨(World.putObj_heap_other (by omega)).trans hI.1, put_below hI.2 (by omega)⟩
  case hIn => exact fun i X o _ hI => ⟨blk_alloc hI.1 _, hI.2.alloc hI.2.size _⟩
  case h0 => exact ⟨by rw [Dr.sz]; exact HV2.out, hw2⟩
  case hbody =>
    intro l i x X hx hI
    obtain ⟨hI1, hI2⟩ := hI
    have HI1 := Lib.hid hI1
    have HI2 := Lib.hid hI2
    obtain ⟨x0, x1⟩ := Dr.nums_fit HLF.out.1 HLF.out.2 hl x (List.mem_of_getElem? hx)
    have hss := Dr.sz_succ L i x hx
    have hsl := Dr.sz_le L (i + 1)
    have hlt : i < (Dr.nums L).length := (List.getElem?_eq_some_iff.1 hx).1
    rw [Dr.nums_len] at hlt
    have hsb := Vi.sz_bd x
    have hsl0 := Dr.sz_le L i
    have c0 := cell_of_row X w1.heap.size 0 _ _ _ HI1.out
    have f0 : X.frozen? ⟨w1.heap.size, 0, none⟩ = false := by simp [World.frozen?, HI1.out]
    have hwr : IntKind.i64.wrap (Dr.sz L i + Vi.sz x) = Dr.sz L i + Vi.sz x := by rw [IntKind.wrap_i64]; omega
    have HSS := Lib.hid hss
    clear hss hsl hx hI1 hI2
    gi_wp2
    gi_region_with (first | (refine ⟨trivial, ?_⟩; refine (CallsIn.inRound l (callsIn_wide.2 (size_any x _ x0 x1))).mono ?_; rintro e W5 ⟨rfl, rfl⟩))
    all_goals
      have hI5 : SzI L w.heap.size w1.heap.size w (i + 1) (X.setCell ⟨w1.heap.size, 0, none⟩ (.int .i64 (Dr.sz L i + Vi.sz x))).drew := ⟨by rw [HSS.out]; exact set_blk HI1.out, Below.drew (below_set HI2.out hsz1 _)⟩
      exact ⟨Keeps.drew' (Rg.Keeps.setCell X _ _), Nk.drew (Nk.set HI1.out rfl), hI5⟩
  case hdone =>
    intro D X hD hI hDD
    obtain ⟨hI1, hI2⟩ := hI
    rw [Dr.sz_all] at hI1
    have HI1 := Lib.hid hI1
    have c0 := cell_of_row X w1.heap.size 0 _ _ _ HI1.out
    clear hI1
    go_wp2_with fail
    refine ⟨by simp, .inl ⟨D, _, rfl, run_takeDeferred hDD, ?_⟩⟩
    exact ⟨_, by simp [results, Tryz.results47, go_sem], rfl, put_below hI2 (by omega)⟩
end Go.Proofs.YtlfahmdndlmhpaaGreatDoor
namespace Go.Proofs.YtlfahmdndlmhpaaGreatDoor
open Go.RowKit Go.Shelf

def ChunkPost (v : Value) (k : Int) (w : World) (e : Ending) (w' : World) : Prop := e = .returned (.func (.func 120) #[] #[.pointer (some ⟨w.heap.size, 0, none⟩), .pointer (some ⟨w.heap.size + 1, 0, none⟩)]) ∧ w'.heap[w.heap.size]? = some (.cells #[v] 35 (0, 0)) ∧ w'.heap[w.heap.size + 1]? = some (.cells #[.int .i64 k] 3 (0, 0)) ∧ Below w.heap.size w w'
theorem chunk_any (A : Option Addr) (n cap : Nat) (k : Int) (hk : 0 < k) (w : World) : Calls Tryz.prog 81 #[.slice A n cap, .int .i64 k] w (ChunkPost (.slice A n cap) k w) := by
  have hd : ¬ k < 1 := by omega
  go_enter Tryz.func81, Tryz.ntmps81
  go_wp2_with fail
  go_ret
  exact ⟨by simp, blk_alloc (heap_alloc_new w _) _, heap_at (by simp), (Below.refl _ _ |>.alloc (Nat.le_refl _) _).alloc (by simp) _⟩

def Nb (_ : Nat) (X Y : World) : Prop := Below X.heap.size X Y
def cEnc (A : Option Addr) (n k : Nat) (j : Nat) : Array Value := #[.slice (A.map (·.add (j * k * 4))) (min k (n - j * k)) (min k (n - j * k))]
attribute [local go_sem] Oper.semAt_some
set_option maxRecDepth 100000 in
set_option maxHeartbeats 4000000 in
theorem chunk_seq (A : Option Addr) (cap : Nat) (L : List Ent) (k Bs Bk B b5 : Nat) (w : World) (hk : 0 < k) (hk2 : k ≤ 4096) (hl : L.length ≤ 4096) (hcap : L.length ≤ cap)
    (hBs : w.heap[Bs]? = some (.cells #[.slice A L.length cap] 35 (0, 0))) (hBk : w.heap[Bk]? = some (.cells #[.int .i64 (k : Int)] 3 (0, 0))) (hBs5 : Bs ≠ b5) (hBk5 : Bk ≠ b5) (hr : Reads w B 4 A L.length (ecells L)) (hB : B ≤ w.heap.size) (hB5 : B ≤ b5) :
    Rg.Seq Tryz.prog 120 #[.pointer (some ⟨Bs, 0, none⟩), .pointer (some ⟨Bk, 0, none⟩)] (cEnc A L.length k) (List.range (Lv.cnt L.length k)) (Nk w.heap.size b5) Nb w := by
  intro l J W hbW hJ hY h0
  have HY := Lib.hid hY
  have HJ := Lib.hid hJ
  have HB1 := Lib.hid ((hbW.block Bs (blk_lt hBs)).trans hBs)
  have HK1 := Lib.hid ((hbW.block Bk (blk_lt hBk)).trans hBk)
  have HR1 := Lib.hid (hr.below (hbW.mono hB))
  have H0 := Lib.hid h0
  have hDW := hbW.size
  have hBsD := blk_lt hBs
  have hBkD := blk_lt hBk
  clear hY hJ hBs hBk hr h0
  refine callsIn_of_wp Tryz.func120 rfl trivial ?_ rfl
  simp only [Tryz.ntmps120, List.size_toArray, List.length_cons, List.length_nil, Nat.reduceAdd, Nat.reduceSub, Array.replicate_succ, Array.replicate_zero, List.push_toArray, List.append_toArray, List.nil_append, List.cons_append]
  gi_wp2
  gi_loopw [4] (fun cc wr => ∃ j : Nat, j ≤ Lv.cnt L.length k ∧ cc = .int .i64 ((j * k : Nat) : Int) ∧ Hid (J j wr) ∧ Hid (wr.heap[Bs]? = some (.cells #[.slice A L.length cap] 35 (0, 0))) ∧ Hid (wr.heap[Bk]? = some (.cells #[.int .i64 (k : Int)] 3 (0, 0))) ∧ Hid (Reads wr B 4 A L.length (ecells L)) ∧ W.heap.size ≤ wr.heap.size) (fun cc _ => L.length + 4096 - (intOf cc).toNat)
  case atStart => exact ⟨0, by omega, by simp, H0, HB1, HK1, HR1, Nat.le_refl _⟩
  case round =>
    obtain ⟨j, hj, rfl, HJ2, HB2, HK2, HR2, hW2⟩ := hrel
    have c0 := cell_of_row wr Bs 0 _ _ _ HB2.out
    have c1 := cell_of_row wr Bk 0 _ _ _ HK2.out
    by_cases hlt : j * k < L.length
    · obtain ⟨g, off, hA, hgB⟩ := HR2.out.plain (by omega) rfl
      have hjc : j < Lv.cnt L.length k := (Lv.cnt_iff hk).2 hlt
      have hx : (List.range (Lv.cnt L.length k))[j]? = some j := by rw [List.getElem?_range hjc]
      have HX := Lib.hid hx
      obtain ⟨p, hp⟩ : ∃ p, p = j * k := ⟨_, rfl⟩
      have HP := Lib.hid hp
      rw [← hp] at hlt ⊢
      clear hx hp
      have hq : ((p : Int) + min (k : Int) ((L.length - p : Nat) : Int)).toNat - p = min k (L.length - p) := by omega
      have hjd : J j wr.drew := HJ.out _ _ _ HJ2.out (Below.refl _ _).drew
      subst hA
      gi_wp2
      gi_region
      obtain ⟨fn, tmps, assign, body, hy, hR⟩ := HY.out j j wr.drew HX.out hjd
      simp only [cEnc, Option.map_some, add_plain, ← HP.out] at hy
      have HR := Lib.hid hR
      clear hR hjd
      gi_wp2
      refine HR.out.mono ?_
      rintro e W3 ⟨rfl, hJ6, hK6⟩
      have HJ6 := Lib.hid hJ6
      have HB6 := Lib.hid (hK6.same _ _ (hid_drew HB2).out (Or.inl ⟨hBsD, hBs5⟩))
      have HK6 := Lib.hid (hK6.same _ _ (hid_drew HK2).out (Or.inl ⟨hBkD, hBk5⟩))
      have HR6 := Lib.hid (HR2.out.drew.nk hK6 (Nat.le_trans hDW hW2) hB hB5)
      have hW3 : W.heap.size ≤ W3.heap.size := Nat.le_trans hW2 hK6.size
      clear c0 c1 hy hq hJ6 hK6
      have c1 := cell_of_row W3 Bk 0 _ _ _ HK6.out
      gi_wp2
      exact ⟨⟨j + 1, by omega, by rw [Nat.add_mul, ← HP.out]; go_num, HJ6, HB6, HK6, HR6, hW3⟩, by simp [intOf]; omega⟩
    · have hjc : ¬ j < Lv.cnt L.length k := fun h => hlt ((Lv.cnt_iff hk).1 h)
      obtain rfl : j = Lv.cnt L.length k := by omega
      have hd : ¬ (((Lv.cnt L.length k * k : Nat) : Int) < (L.length : Int)) := by omega
      gi_wp2
      go_end0
      exact ⟨⟨_, rfl⟩, HJ2.out⟩
end Go.Proofs.YtlfahmdndlmhpaaGreatDoor
