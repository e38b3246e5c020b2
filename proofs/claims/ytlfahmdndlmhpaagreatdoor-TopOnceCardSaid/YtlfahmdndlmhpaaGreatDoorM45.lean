/- The walks of the chart's Zooms, and of Each: the maker and the iterator. The walk of a directory's Encode. A region that draws its order, inside a round: one operation at a time, as a list of one. -/
import Derived.Test.YtlfahmdndlmhpaaGreatDoorM26
import Derived.Test.YtlfahmdndlmhpaaGreatDoorZoom
import Derived.Test.YtlfahmdndlmhpaaGreatDoorM44
import Derived.Test.YtlfahmdndlmhpaaGreatDoorM09
import Derived.Test.YtlfahmdndlmhpaaGreatDoorM08
import Derived.OwnWalkIn
import Derived.OrdersIn
namespace Go.Proofs.YtlfahmdndlmhpaaGreatDoor
open Go.RowKit Go.Shelf

/-- two zooms, in order -/
def ZPost (w : World) (e : Ending) (w' : World) : Prop := ∃ lo hi b, e = .returned (.tuple #[.int .i64 lo, .int .i64 hi, .bool b]) ∧ 0 ≤ lo ∧ lo ≤ hi ∧ hi ≤ 26 ∧ Below w.heap.size w w'
set_option maxHeartbeats 1000000 in
theorem zooms_any (A : Option Addr) (n cap : Nat) (L : List Itm) (B : Nat) (w : World) (hr : Reads w B 2 A n (icells L)) (hn : n = L.length) (hs : It.ok L) (hB : B ≤ w.heap.size) (hm : n ≤ 100000) :
    Calls Tryz.prog 58 #[.agg #[.slice A n cap]] w (ZPost w) := by
  rcases Nat.eq_zero_or_pos n with h0 | h0
  · subst h0
    clear hr hn hs
    go_enter Tryz.func58, Tryz.ntmps58
    go_wp2_with fail
    go_ret3
    exact ⟨0, 0, false, rfl, by omega, by omega, by omega, blk_new _ _⟩
  · obtain ⟨g, off, hA, hgB⟩ := hr.iplain h0 hn
    subst hA
    obtain ⟨m, rfl⟩ : ∃ m, n = m + 1 := ⟨n - 1, by omega⟩
    have c0 := (hr.itm hn 0 (by omega)).1
    have d0 := (hr.itm hn m (by omega)).1
    have g0 := (hs.good _ (List.getElem_mem (by omega : 0 < L.length))).1
    have g1 := (hs.good _ (List.getElem_mem (by omega : m < L.length))).1
    have hle : (L[0]'(by omega)).1 ≤ (L[m]'(by omega)).1 := by
      rcases Nat.eq_zero_or_pos m with hm0 | hm0
      · subst hm0; exact Int.le_refl _
      · have := hs.rise 0 m (by omega) (by omega) hm0; omega
    obtain ⟨a, ha⟩ : ∃ a, a = (L[0]'(by omega)).1 := ⟨_, rfl⟩
    obtain ⟨b, hb⟩ : ∃ b, b = (L[m]'(by omega)).1 := ⟨_, rfl⟩
    rw [← ha] at c0 g0 hle
    rw [← hb] at d0 g1 hle
    obtain ⟨a0, a1⟩ := g0
    obtain ⟨b0, b1⟩ := g1
    have hz0 := Cv.zv_bd a1
    have hz1 := Cv.zv_bd b1
    have hz2 := Cv.zv_mono hle b1
    have HZ := Lib.hid (And.intro hz0 (And.intro hz1 hz2))
    rw [Nat.zero_mul, Nat.add_zero] at c0
    have hgw : g < w.heap.size := by omega
    have hmi : ((m : Int) + 1 - 1) = (m : Int) := by omega
    clear hr hn hs ha hb hz0 hz1 hz2 hle
    go_enter Tryz.func58, Tryz.ntmps58
    go_wp2_with fail
    go_quiet ((go_at_call 92; exact quiet_left (zoom_any _ (by omega) _)))
    go_wp2_with fail
    go_ret3
    exact ⟨Cv.zv a, Cv.zv b, true, rfl, HZ.out.1.1, HZ.out.2.2, HZ.out.2.1.2, bdraws (blk_new _ _) _⟩

def EachPost (v : Value) (w : World) (e : Ending) (w' : World) : Prop := e = .returned (.func (.func 75) #[] #[.pointer (some ⟨w.heap.size, 0, none⟩)]) ∧ w'.heap[w.heap.size]? = some (.cells #[v] 27 (0, 0)) ∧ Below w.heap.size w w'
theorem each_any (A : Option Addr) (n cap : Nat) (w : World) : Calls Tryz.prog 41 #[.agg #[.slice A n cap]] w (EachPost (.slice A n cap) w) := by
  go_enter Tryz.func41, Tryz.ntmps41
  go_wp2_with fail
  go_ret
  exact ⟨rfl, heap_alloc_new w _, blk_new _ _⟩
/-- what a round of the range over a chart keeps: what lay ahead of all, and the chart's own cell -/
def Kc (D Bs : Nat) (X Y : World) : Prop := X.heap.size ≤ Y.heap.size ∧ ∀ (k : Nat) (o : Obj), X.heap[k]? = some o → (k < D ∨ k = Bs) → Y.heap[k]? = some o
theorem Kc.trans {D Bs : Nat} {a b c : World} (h : Kc D Bs a b) (k : Kc D Bs b c) : Kc D Bs a c := ⟨Nat.le_trans h.1 k.1, fun i o hi ho => k.2 i o (h.2 i o hi ho) ho⟩
theorem Reads.kc {X Y : World} {B n D Bs : Nat} {A : Option Addr} {xs : List Value} {size : Nat} (h : Reads X B size A n xs) (hk : Kc D Bs X Y) (hB : B ≤ D) (hX : B ≤ X.heap.size) : Reads Y B size A n xs :=
  h.keep fun p hp => World.cell?_of_block (by
    have hlt : p.block < X.heap.size := by omega
    rw [hk.2 p.block _ (Array.getElem?_eq_getElem hlt) (Or.inl (by omega)), Array.getElem?_eq_getElem hlt])
def eEnc (x : Itm) : Array Value := #[.int .u64 x.1, .string x.2]
attribute [local go_sem] Oper.semAt_some
set_option maxRecDepth 100000 in
set_option maxHeartbeats 4000000 in
theorem each_seq (A : Option Addr) (cap : Nat) (L : List Itm) (Bs B D : Nat) (w : World) (hl : L.length ≤ 100000) (hBs : w.heap[Bs]? = some (.cells #[.slice A L.length cap] 27 (0, 0))) (hr : Reads w B 2 A L.length (icells L)) (hBD : B ≤ D) (hD : D ≤ w.heap.size) :
    Rg.Seq Tryz.prog 75 #[.pointer (some ⟨Bs, 0, none⟩)] eEnc L (Kc D Bs) Nb w := by
  intro l J W hbW hJ hY h0
  have HY := Lib.hid hY
  have HJ := Lib.hid hJ
  have HB1 := Lib.hid ((hbW.block Bs (blk_lt hBs)).trans hBs)
  have HR1 := Lib.hid (hr.below (hbW.mono (Nat.le_trans hBD hD)))
  have H0 := Lib.hid h0
  have hDW := hbW.size
  clear hY hJ hBs hr h0
  refine callsIn_of_wp Tryz.func75 rfl trivial ?_ rfl
  simp only [Tryz.ntmps75, List.size_toArray, List.length_cons, List.length_nil, Nat.reduceAdd, Nat.reduceSub, Array.replicate_succ, Array.replicate_zero, List.push_toArray, List.append_toArray, List.nil_append, List.cons_append]
  have b0 := cell_of_row W Bs 0 _ _ _ HB1.out
  gi_wp2
  clear b0
  gi_loopw [8] (fun cc wr => ∃ j : Nat, j ≤ L.length ∧ cc = .int .i64 (j : Int) ∧ Hid (J j wr) ∧ Hid (wr.heap[Bs]? = some (.cells #[.slice A L.length cap] 27 (0, 0))) ∧ Hid (Reads wr B 2 A L.length (icells L)) ∧ W.heap.size ≤ wr.heap.size) (fun cc _ => L.length - (intOf cc).toNat)
  case atStart => exact ⟨0, by omega, rfl, H0, HB1, HR1, Nat.le_refl _⟩
  case round =>
    obtain ⟨j, hj, rfl, HJ2, HB2, HR2, hW2⟩ := hrel
    by_cases hlt : j < L.length
    · obtain ⟨g, off, hA, hgB⟩ := HR2.out.iplain (by omega) rfl
      have hx : L[j]? = some (L[j]'hlt) := List.getElem?_eq_getElem hlt
      have HR' := HR2.out
      rw [hA] at HR'
      subst hA
      obtain ⟨c0, c1⟩ := HR'.itm rfl j hlt
      obtain ⟨⟨i, s⟩, he⟩ : ∃ e, e = L[j]'hlt := ⟨_, rfl⟩
      rw [← he] at hx c0 c1
      have HX := Lib.hid hx
      have hgw : g < wr.heap.size := by omega
      have hjd : J j (wr.alloc (.cells #[.int .u64 i, .string s] 45)) := HJ.out _ _ _ HJ2.out (blk_new _ _)
      obtain ⟨fn, tmps, assign, body, hy, hR⟩ := HY.out j (i, s) _ HX.out hjd
      simp only [eEnc] at hy
      have HR := Lib.hid hR
      clear he HR' hx hR hjd
      gi_wp2
      refine HR.out.mono ?_
      rintro e W3 ⟨rfl, hJ6, hK6⟩
      have HJ6 := Lib.hid hJ6
      have HB6 := Lib.hid (hK6.2 _ _ (blk_alloc HB2.out _) (Or.inr rfl))
      have HR6 := Lib.hid ((HR2.out.alloc (by omega) _).kc hK6 hBD (by simp; omega))
      have hW3 : W.heap.size ≤ W3.heap.size := by have h1 := hK6.1; simp at h1; omega
      clear c0 c1 hy hJ6 hK6
      gi_wp2
      exact ⟨⟨j + 1, by omega, by go_num, HJ6, HB6, HR6, hW3⟩, by simp [intOf]; omega⟩
    · obtain rfl : j = L.length := by omega
      gi_wp2
      go_end0
      exact ⟨⟨_, rfl⟩, HJ2.out⟩
end Go.Proofs.YtlfahmdndlmhpaaGreatDoor
namespace Go.Proofs.YtlfahmdndlmhpaaGreatDoor
open Go.RowKit Go.Shelf

/-- what the loop in Encode keeps -/
def EcI (L : List Ent) (B b D : Nat) (w : World) (i : Nat) (X : World) : Prop := ∃ v, X.heap[b]? = some (.cells #[v] 114 (0, 0)) ∧ X.ownsRow D 40 1 v i (((Dr.nums L).take i).map (Value.int .u64)) ∧ D ≤ X.heap.size ∧ Below B w X
theorem own_na {B base size n : Nat} {X Y : World} {e : TypeId} {v : Value} {xs : List Value} (h : Na B X Y) (he : (e == 43) = false) (ho : X.ownsRow base e size v n xs) : Y.ownsRow base e size v n xs := by
  obtain ⟨h1, h2⟩ := ho
  refine ⟨h1, ?_⟩
  rcases h2 with h2 | ⟨g, cap, cur, hv, hg, hh, r⟩
  · exact Or.inl h2
  · exact Or.inr ⟨g, cap, cur, hv, hg, h.same _ _ hh (Or.inr he), r⟩
theorem own_put {base size n k : Nat} {X : World} {e : TypeId} {v : Value} {xs : List Value} {o o' : Obj} (ho : X.heap[k]? = some o) (hw : Rg.own o = true) (h : X.ownsRow base e size v n xs) : (X.putObj k o').ownsRow base e size v n xs := by
  obtain ⟨h1, h2⟩ := h
  refine ⟨h1, ?_⟩
  rcases h2 with h2 | ⟨g, cap, cur, hv, hg, hh, r⟩
  · exact Or.inl h2
  · refine Or.inr ⟨g, cap, cur, hv, hg, (World.putObj_heap_other (fun e => ?_)).trans hh, r⟩
    subst e
    rw [hh] at ho
    cases ho
    cases hw
theorem Nk.grown {D b5 base size n : Nat} {X Y : World} {v : Value} {e : TypeId} {xs : List Value} (hg : X.grownBy Y v.ownBlock) (ho : X.ownsRow base e size v n xs) (he : (e == 43) = false) (hD : D ≤ base) : Nk D b5 X Y :=
  ⟨hg.size, fun k o hk hq => (hg.block k (blk_lt hk) (fun e1 => by
    rcases ho.2 with ⟨hv, _⟩ | ⟨g, cap, cur, hv, hb, hh, _⟩
    · rw [hv] at e1; cases e1
    · rw [hv] at e1
      cases e1
      rcases hq with h | h
      · have h1 : g < D := h.1
        omega
      · rw [hh] at hk
        cases hk
        have h2 : (e == 43) = true := h
        rw [he] at h2; cases h2)).trans hk⟩
theorem Nk.of_below {D b5 : Nat} {X Y : World} (h : Below X.heap.size X Y) : Nk D b5 X Y := ⟨h.size, fun _ _ hk _ => blk_keep hk h⟩
theorem Keeps.grown' {base size n : Nat} {X Y : World} {v : Value} {e : TypeId} {xs : List Value} (hg : X.grownBy Y v.ownBlock) (ho : X.ownsRow base e size v n xs) : Rg.Keeps X Y :=
  Rg.Keeps.grown hg (fun g o e1 hk => by
    rcases ho.2 with ⟨hv, _⟩ | ⟨g', cap, cur, hv, hb, hh, _⟩
    · rw [hv] at e1; cases e1
    · rw [hv] at e1
      cases e1
      rw [hh] at hk
      cases hk
      rfl)
def DencPost (L : List Ent) (w : World) (e : Ending) (w' : World) : Prop := e = .returned (.tuple #[.string (strOfNums (Dr.enc L)), .int .i64 0]) ∧ Below w.heap.size w w'
attribute [local go_sem] Oper.semAt_some
set_option maxRecDepth 100000 in
set_option maxHeartbeats 4000000 in
theorem denc_any (A : Option Addr) (cap : Nat) (L : List Ent) (B : Nat) (w : World) (hL : En.fine L) (hf : En.fits L) (hl2 : L.length ≤ 2000) (h64 : (Dr.enc L).length ≤ 65536) (hr : Reads w B 4 A L.length (ecells L)) (hB : B ≤ w.heap.size) :
    Calls Tryz.prog 20 #[.slice A L.length cap] w (DencPost L w) := by
  have hl : L.length ≤ 4096 := by omega
  have HR := Lib.hid hr
  have HLF := Lib.hid (And.intro hL hf)
  have HROW := Lib.hid (En.fine_row hL hf hl)
  have HF := Lib.hid hf
  clear hr hL hf
  refine calls_of_wp_marks Tryz.func20 rfl ?_
  simp only [Tryz.ntmps20, List.size_toArray, List.length_cons, List.length_nil, Nat.reduceAdd, Nat.reduceSub, Array.replicate_succ, Array.replicate_zero, List.push_toArray, List.append_toArray, List.nil_append, List.cons_append]
  go_wp2_with fail
  refine (row_any A L.length cap L B _ HR.out rfl HF.out hB (by omega)).mono ?_; rintro e w1 ⟨he, hb1⟩
  rw [HROW.out] at he
  subst he
  have HR1 := Lib.hid (HR.out.below (hb1.mono hB))
  have hsz1 := hb1.size
  go_wp2_with fail
  refine (dsize_any A cap L B _ HLF.out.1 HLF.out.2 hl HR1.out (by omega)).mono ?_; rintro e w1' ⟨rfl, hb1'⟩
  have HR1' := Lib.hid (HR1.out.below (hb1'.mono (by omega)))
  have hb1'' := bthen hb1 hb1'
  have hsz1' := hb1''.size
  clear hb1' HR1
  go_wp2_with fail
  refine (nums_any A L.length cap _).mono ?_; rintro e w2 ⟨rfl, hB2, hb2⟩
  have HV2 := Lib.hid (blk_keep2 hb2 (heap_alloc_new w1' (.cells #[.slice none 0 0] 114)))
  have hsz2 := blk_lt hB2
  have hw2 := bthen (blk_new1 hb1'' _) hb2
  rw [World.size_alloc] at hB2 hsz2
  have HB2 := Lib.hid hB2
  have HR2 := Lib.hid (HR1'.out.below (((blk_new w1' (.cells #[.slice none 0 0] 114)).trans (hb2.mono (by simp))).mono (by omega)))
  clear hB2 hb2
  go_wp2_with fail
  have hseq := nums_seq A cap L (w1'.heap.size + 1) B w1'.heap.size w2 HLF.out.1 HLF.out.2 hl HB2.out (by omega) HR2.out (by omega) (by omega)
  have HSEQ := Lib.hid hseq
  clear hseq
  refine wp_rangeGo (a1 := ?a1) (I := EcI L w.heap.size w1'.heap.size w2.heap.size w) (hseq := HSEQ.out) rfl (fun _ _ => rfl) ?hAo (fun h k => h.trans k) ?hKo ?hps ?hIa ?hIo ?hIn ?h0 ?hassign ?hbody ?hdone
  case hassign =>
    intro l x W K hK
    simp only [nEnc, List.zip_toArray, List.zip_cons_cons, List.zip_nil_right, List.foldl_toArray, List.foldl_cons, List.foldl_nil, List.setIfInBounds_toArray, List.set_cons_succ, List.set_cons_zero]
    gi_wp2
    exact hK
  case hps => intro x; rfl
  case hAo => exact fun B X Y k o h hk ho => h.same k o hk (Or.inr (Rg.own_not ho))
  case hKo =>
    intro X k o o' hk ho hw
    refine ⟨by simp [World.putObj], fun j p hj hq => ?_⟩
    have hne : j ≠ k := fun e => by
      subst e
      rw [ho] at hj
      cases hj
      rcases hq with h | h
      · omega
      · rw [Rg.own_not hw] at h; cases h
    exact (World.putObj_heap_other (by omega)).trans hj
  case hIa =>
    rintro B i X Y hB ⟨v, h1, h2, h4, h3⟩ hA
    exact ⟨v, hA.same _ _ h1 (Or.inr rfl), own_na hA rfl h2, Nat.le_trans h4 hA.size, hA.below h3 (by omega) (Nat.le_refl _)⟩
  case hIo =>
    rintro i X k o o' hk ho hw ⟨v, h1, h2, h4, h3⟩
    exact ⟨v, (World.putObj_heap_other (by omega)).trans h1, own_put ho hw h2, by simpa using h4, put_below h3 (by omega)⟩
  case hIn =>
    rintro i X o _ ⟨v, h1, h2, h4, h3⟩
    exact ⟨v, blk_alloc h1 _, h2.alloc _, by simp; omega, h3.alloc h3.size _⟩
  case h0 => exact ⟨_, HV2.out, World.ownsRow_nil _ _ _ _, Nat.le_refl _, hw2⟩
  case hbody =>
    rintro l i x X hx ⟨v, hI1, hI2, hDX, hI3⟩
    have HI1 := Lib.hid hI1
    have HI2 := Lib.hid hI2
    have HI3 := Lib.hid hI3
    have HX := Lib.hid hx
    have hlt : i < (Dr.nums L).length := (List.getElem?_eq_some_iff.1 hx).1
    rw [Dr.nums_len] at hlt
    have c0 := cell_of_row X w1'.heap.size 0 _ _ _ HI1.out
    obtain ⟨j0, hj, jz0, jz1, jz2⟩ := info_parts u64_info
    clear hx hI1 hI2 hI3
    gi_wp2_with (gi_at_builtin; go_must (refine wpListIn_append_own _ rfl (.tmp 18) (.tmp 20) _ rfl w2.heap.size 40 j0 _ 1 8 Tryz.underlying114 hj jz0 jz1 jz2 rfl (by omega) v i _ rfl (HI2.out.alloc _) ⟨X.heap.size, 0, none⟩ 1 1 [.int .u64 x] rfl rfl ?c1 ?c2 ?c3 ?c4 ?c5 ?_))
    case c1 => intro j u hu; exact blk1 (heap_alloc_new X _) j u hu
    case c2 => intro u hu; simp at hu; rcases hu with rfl; rfl
    case c3 => simp only [maxLen]; omega
    case c4 => omega
    case c5 => simp; omega
    intro v' w3 hown3 hgr3 _
    have hO3 := HI2.out.alloc (.cells #[.int .u64 x] 40)
    have HV3 : Hid (w3.heap[w1'.heap.size]? = some (.cells #[v] 114 (0, 0))) := Lib.hid (blk_grown (blk_alloc HI1.out _) hgr3 (fun k e => by have := (hO3.lt k e).1; omega))
    have HO3 : Hid (w3.ownsRow w2.heap.size 40 1 v' (i + 1) (((Dr.nums L).take (i + 1)).map (Value.int .u64))) := Lib.hid (by
      have h1 : i < (Dr.nums L).length := by rw [Dr.nums_len]; exact hlt
      have h2 : (Dr.nums L)[i]'h1 = x := (List.getElem?_eq_some_iff.1 HX.out).2
      rw [take_snoc _ i h1, List.map_append, h2, List.map_take]
      exact hown3)
    have HW3 : Hid (Below w.heap.size w w3) := Lib.hid ((HI3.out.alloc HI3.out.size _).grown hgr3 (by simp; omega) (fun k e => by have := (hO3.lt k e).1; omega))
    have HK3 : Hid (Nk w2.heap.size w1'.heap.size X w3) := Lib.hid ((Nk.of_below (blk_new X _)).trans (Nk.grown hgr3 hO3 rfl (Nat.le_refl _)))
    have HR3 : Hid (Rg.Keeps X w3) := Lib.hid ((Rg.Keeps.below (blk_new X _)).trans (Keeps.grown' hgr3 hO3))
    have hD3 : w2.heap.size ≤ w3.heap.size := by have := hgr3.size; simp at this; omega
    have d0 := cell_of_row w3 w1'.heap.size 0 _ _ _ HV3.out
    have f0 : w3.frozen? ⟨w1'.heap.size, 0, none⟩ = false := by simp [World.frozen?, HV3.out]
    obtain ⟨A', c', rfl, _⟩ := own_slice hown3
    clear hown3 hgr3 hO3 c0 hj jz0 jz1 jz2
    gi_wp2
    have hI5 : EcI L w.heap.size w1'.heap.size w2.heap.size w (i + 1) (w3.setCell ⟨w1'.heap.size, 0, none⟩ (.slice A' (i + 1) c')) := ⟨_, set_blk HV3.out, ownsRow_setCell HO3.out (by dsimp only; omega) _, by simpa using hD3, below_set HW3.out hsz1' _⟩
    exact ⟨HR3.out.trans (Rg.Keeps.setCell w3 _ _), HK3.out.trans (Nk.set HV3.out rfl), hI5⟩
  case hdone =>
    rintro D X hD ⟨v, hI1, hI2, hDX, hI3⟩ hDD
    rw [List.take_length] at hI2
    obtain ⟨A5, c5, rfl, hc5⟩ := own_slice hI2
    have HI1 := Lib.hid hI1
    have HR5 := Lib.hid (Reads.of_own hI2)
    have HI3 := Lib.hid hI3
    have HFIT := Lib.hid (Dr.nums_fit HLF.out.1 HLF.out.2 hl)
    have hn5 := Dr.nums_len L
    obtain ⟨q, hq⟩ : ∃ q, q = (Dr.nums L).length := ⟨_, rfl⟩
    rw [← hq] at hn5 HR5 hc5 HI1
    have c0 := cell_of_row X w1'.heap.size 0 _ _ _ HI1.out
    have HQ := Lib.hid hq
    have hq5 : q ≤ 100000 := by omega
    clear hI1 hI2 hI3 hq hn5
    go_wp2_with fail
    refine (all_any A5 q c5 (Dr.nums L) X.heap.size X HR5.out HQ.out HFIT.out (Nat.le_refl _) (by have := HQ.out; rw [Dr.nums_len] at this; omega)).mono ?_
    rintro e w5 ⟨v5, he, hT5, hb5⟩
    subst he
    obtain ⟨A6, c6, rfl, hc6⟩ := hT5.slice
    have hstr := row8_str (c := c6) (Reads.of_own hT5) rfl
    have hEnc : Vi.all (Dr.nums L) = Dr.enc L := rfl
    have HDK := Lib.hid (blk_keep2 hb5 hDD)
    have hw5 := (HI3.out).trans (hb5.mono (by have := HI3.out.size; omega))
    clear hb5 c0
    rw [hEnc] at hstr ⊢
    clear hT5 hEnc
    go_wp2_with fail
    refine ⟨by simp, .inl ⟨D, _, rfl, run_takeDeferred HDK.out, ?_⟩⟩
    exact ⟨_, by simp [results, Tryz.results20, go_sem], rfl, put_below hw5 (by omega)⟩
end Go.Proofs.YtlfahmdndlmhpaaGreatDoor
namespace Go.Proofs.YtlfahmdndlmhpaaGreatDoor
open Go.RowKit

section
variable {F : Fence} {n : Nat} {P : Program} {ops : Array Oper} {Q : Exit → Act → World → Prop} {md : Region.Mode}
def Qk (K : Act → World → Prop) (Q : Exit → Act → World → Prop) : Exit → Act → World → Prop
  | .normal, a, w => K a w
  | .panic c, a, w => Q (.panic c) a w
  | .exit c, a, w => Q (.exit c) a w
  | .goto c, a, w => Q (.goto c) a w
  | .ret, a, w => Q .ret a w
  | .outgrown, a, w => Q .outgrown a w
theorem Qk_lets {K : Act → World → Prop} {Q : Exit → Act → World → Prop} (h : LetsOut (Qk K Q)) : LetsOut Q := h
theorem Oper.wpIn_qk {o : Oper} {a : Act} {w : World} {K : Act → World → Prop} (hh : o.wpIn F n P a w K (Qk K Q)) : o.wpIn F n P a w K Q := by
  unfold Oper.wpIn at *
  refine ⟨hh.1, ?_⟩
  have hh := hh.2
  generalize (o.semAt F.round a.eval).run P w = r at *
  cases r with
  | ok x w' =>
    cases x <;> simp only [Oper.uponIn] at hh ⊢ <;>
      first
        | exact hh
        | exact ⟨hh.1, CallsIn.mono hh.2 (fun e w'' he => by cases e <;> first | exact he | exact Qk_lets he)⟩
        | exact ⟨hh.1, RowsIn.mono hh.2 (fun _ _ he => he)⟩
        | exact ⟨hh.1, RoundIn.mono hh.2 (fun e w'' he => by cases e <;> first | exact he | exact Qk_lets he)⟩
  | halt x w' => cases x <;> simp only [Oper.uponIn] at hh ⊢ <;> exact hh
theorem opIn_list {i : Nat} {o : Oper} {K : Act → World → Prop} {a : Act} {w : World} (hi : ops[i]? = some o) (h : wpListIn F n P ops (Qk K Q) [o] a w) : wpOpIn F n P ops Q i K a w := by
  unfold wpOpIn
  rw [hi]
  simp only [wpListIn] at h
  dsimp only
  split
  · rename_i hw
    rw [if_pos hw] at h
    exact Oper.wpIn_qk h
  · rename_i hw
    rw [if_neg hw] at h
    exact h
theorem anyIn_one {i fuel : Nat} {o : Oper} {listed : Array Bool} {a : Act} {w : World} (hr : Region.ready md ops listed = [i]) (hi : ops[i]? = some o)
    (h : wpListIn F n P ops (Qk (wpAnyIn F n P md ops Q fuel (listed.setIfInBounds i true)) Q) [o] a w) : wpAnyIn F n P md ops Q (fuel + 1) listed a w := by
  refine ⟨fun e => (by rw [hr] at e; cases e), fun j hj => ?_⟩
  rw [hr, List.mem_singleton] at hj
  subst hj
  exact opIn_list hi h
theorem anyIn_two {i j fuel : Nat} {o p : Oper} {listed : Array Bool} {a : Act} {w : World} (hr : Region.ready md ops listed = [i, j]) (hi : ops[i]? = some o) (hj : ops[j]? = some p)
    (h : wpListIn F n P ops (Qk (wpAnyIn F n P md ops Q fuel (listed.setIfInBounds i true)) Q) [o] a w)
    (h2 : wpListIn F n P ops (Qk (wpAnyIn F n P md ops Q fuel (listed.setIfInBounds j true)) Q) [p] a w) : wpAnyIn F n P md ops Q (fuel + 1) listed a w := by
  refine ⟨fun e => (by rw [hr] at e; cases e), fun k hk => ?_⟩
  rw [hr] at hk
  rcases List.mem_cons.1 hk with e | hk
  · subst e; exact opIn_list hi h
  · rw [List.mem_singleton] at hk
    subst hk
    exact opIn_list hj h2
theorem anyIn_done {listed : Array Bool} {a : Act} {w : World} (hr : Region.ready md ops listed = []) (h : Q .normal a w) : wpAnyIn F n P md ops Q 0 listed a w := ⟨hr, h⟩
end
end Go.Proofs.YtlfahmdndlmhpaaGreatDoor
