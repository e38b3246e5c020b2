/- The walks of the pool's New, end, at, Find and Text. The walk of the pool's Find. The walk of chart.Of on one item. -/
import Derived.Test.YtlfahmdndlmhpaaGreatDoorPoolMem
import Derived.Test.YtlfahmdndlmhpaaGreatDoorM10
import Derived.Test.YtlfahmdndlmhpaaGreatDoorShelf
import Derived.Test.YtlfahmdndlmhpaaGreatDoorLayGlue
import Derived.Test.YtlfahmdndlmhpaaGreatDoorM32
import Derived.Maps.GroupsBeside
import Derived.Test.YtlfahmdndlmhpaaGreatDoorM26
import Derived.Test.YtlfahmdndlmhpaaGreatDoorM20
import Derived.Test.YtlfahmdndlmhpaaGreatDoorM27
import Derived.Maps.OwnSet
import Derived.OwnWalk
namespace Go.Proofs.YtlfahmdndlmhpaaGreatDoor
open Go.RowKit Go.ChangeShapes

def NewPost (w : World) (e : Ending) (w' : World) : Prop := e = .returned (.pointer (some ⟨w.heap.size, 0, none⟩)) ∧ w' = w.alloc (.cells #[.slice none 0 0, .slice none 0 0, .map none] 156)
theorem pnew_any (w : World) : Calls Tryz.prog 40 #[] w (NewPost w) := by
  go_enter Tryz.func40, Tryz.ntmps40
  go_wp2_with fail
  go_ret
  exact ⟨rfl, rfl⟩
theorem Pl.at_new {w w' : World} {e : Ending} (h : NewPost w e w') : Pl.at_ w' w.heap.size [] := by
  obtain ⟨_, rfl⟩ := h
  exact ⟨_, _, _, heap_alloc_new w _, World.ownsRow_nil _ _ _ _, World.ownsRow_nil _ _ _ _, Or.inl ⟨rfl, rfl⟩⟩
theorem pend_any (o n : Int) (h0 : 0 ≤ o) (h1 : 0 ≤ n) (h2 : n < 4294967296) (h3 : o + n < 18446744073709551616) (w : World) : Calls Tryz.prog 150 #[.agg #[.int .u64 o, .int .u32 n]] w fun e w' => e = .returned (.int .u64 (o + n)) ∧ Below w.heap.size w w' := by
  have c1 := u64w (a := n) h1 (by omega)
  have c2 := u64w (a := o + n) (by omega) h3
  go_enter Tryz.func150, Tryz.ntmps150
  go_wp2_with fail
  go_ret
  exact ⟨rfl, blk_new _ _⟩
def TextPost (l : List Int) (w : World) (e : Ending) (w' : World) : Prop := e = .returned (.string (strOfNums l)) ∧ Below w.heap.size w w'
theorem sclone_any (s : ByteArray) (w : World) (hs : s.size ≤ 1000000) : Calls Tryz.prog 78 #[.string s] w fun e w' => e = .returned (.string s) ∧ Below w.heap.size w w' := by
  go_enter Tryz.func78, Tryz.ntmps78
  go_wp2_with fail
  refine (Tryz.stringslite_Clone s _ (by omega)).mono ?_; rintro e w1 ⟨rfl, hb⟩
  go_wp2_with fail
  go_ret
  exact ⟨rfl, hb⟩
set_option maxHeartbeats 1000000 in
theorem ptext_any (g : Nat) (P : List ByteArray) (w : World) (h : Pl.at_ w g P) (ht : Pl.tot P ≤ 1000000) : Calls Tryz.prog 43 #[.pointer (some ⟨g, 0, none⟩)] w (TextPost (Pl.text P) w) := by
  obtain ⟨vt, vp, mv, h1, h2, h3, h4⟩ := h
  have hl := Pl.text_len P
  obtain ⟨A, c, rfl, hc⟩ := h2.slice
  have c0 := cell_of_row w g 0 _ _ _ h1
  have HSTR := Lib.hid (row8_str (c := c) (Reads.of_own h2) rfl)
  have hsz : (strOfNums (Pl.text P)).size ≤ 1000000 := by rw [strOfNums_size]; omega
  obtain ⟨T, hT⟩ : ∃ T, T = (Pl.text P).length := ⟨_, rfl⟩
  rw [← hT] at c0 hc HSTR
  have hstr := HSTR.out
  clear h1 h2 h3 h4 hl hT
  go_enter Tryz.func43, Tryz.ntmps43
  go_wp2_with fail
  refine (sclone_any _ _ hsz).mono ?_; rintro e w1 ⟨rfl, hb⟩
  go_wp2_with fail
  go_ret
  exact ⟨rfl, hb⟩
theorem Pl.tot_take (P : List ByteArray) (k : Nat) (hk : k < P.length) : Pl.tot (P.take k) + (P[k]'hk).size ≤ Pl.tot P := by
  have h1 : Pl.tot (P.take (k + 1)) = Pl.tot (P.take k) + (P[k]'hk).size := by rw [take_snoc P k hk, Pl.tot_snoc]
  have h2 : Pl.tot P = Pl.tot (P.take (k + 1)) + Pl.tot (P.drop (k + 1)) := by rw [← Pl.tot_app, List.take_append_drop]
  omega
theorem Pl.text_nth (P : List ByteArray) (k : Nat) (hk : k < P.length) : ((Pl.text P).drop (Pl.tot (P.take k))).take (P[k]'hk).size = Vi.nums (P[k]'hk) := by
  induction P generalizing k with
  | nil => simp at hk
  | cons t P ih =>
    have e : Pl.text (t :: P) = Vi.nums t ++ Pl.text P := by unfold Pl.text; rw [List.flatMap_cons]
    rw [e]
    cases k with
    | zero =>
      rw [List.take_zero, show Pl.tot [] = 0 from rfl, List.drop_zero, List.getElem_cons_zero, List.take_left' (Vi.nums_len t)]
    | succ k =>
      have hk' : k < P.length := by simpa using hk
      rw [List.take_succ_cons, Pl.tot_cons, List.getElem_cons_succ, ← Vi.nums_len t, List.drop_append, List.drop_of_length_le (by omega), List.nil_append, show (Vi.nums t).length + Pl.tot (P.take k) - (Vi.nums t).length = Pl.tot (P.take k) by omega]
      exact ih k hk'
def StrPost (s : ByteArray) (w : World) (e : Ending) (w' : World) : Prop := e = .returned (.string s) ∧ Below w.heap.size w w'
set_option maxRecDepth 100000 in
set_option maxHeartbeats 2000000 in
theorem pat_any (g : Nat) (P : List ByteArray) (k : Nat) (w : World) (h : Pl.at_ w g P) (hk : k < P.length) (hne : 0 < (P[k]'hk).size) (ht : Pl.tot P ≤ 1000000) :
    Calls Tryz.prog 118 #[.pointer (some ⟨g, 0, none⟩), .agg #[.int .u64 ((Pl.tot (P.take k) : Nat) : Int), .int .u32 ((P[k]'hk).size : Int)]] w (StrPost (P[k]'hk) w) := by
  obtain ⟨vt, vp, mv, h1, h2, h3, h4⟩ := h
  have hl := Pl.text_len P
  have htk := Pl.tot_take P k hk
  have hnt := Pl.text_nth P k hk
  obtain ⟨A, c, rfl, hc⟩ := h2.slice
  obtain ⟨gt, ct, hA, _, hgl⟩ := h2.form (by omega)
  injection hA with hA _ _
  subst hA
  have c0 := cell_of_row w g 0 _ _ _ h1
  obtain ⟨s, hs⟩ : ∃ s, s = P[k]'hk := ⟨_, rfl⟩
  obtain ⟨o, ho⟩ : ∃ o, o = Pl.tot (P.take k) := ⟨_, rfl⟩
  obtain ⟨n, hn⟩ : ∃ n, n = (P[k]'hk).size := ⟨_, rfl⟩
  rw [← hn, ← ho, ← hs] at hnt
  rw [← hn, ← ho] at htk
  have HR : Hid (∀ w1, Below w.heap.size w w1 → Reads w1 w.heap.size 1 (some ⟨gt, o, none⟩) n ((Vi.nums s).map (Value.int .u8))) := Lib.hid (fun w1 hb => by
    have q1 := ((Reads.of_own h2).below hb).cut (k := o) (by omega) hc
    rw [if_neg (by omega), Option.map_some, add_plain] at q1
    have q2 := q1.take_ (k := n) (by omega)
    rw [← List.map_drop, ← List.map_take, Nat.mul_one, Nat.mul_one, hnt, Nat.zero_add] at q2
    exact q2)
  obtain ⟨T, hT⟩ : ∃ T, T = (Pl.text P).length := ⟨_, rfl⟩
  rw [← hn] at hne
  rw [← hT] at c0 hc hl
  rw [← hn, ← ho, ← hs]
  have hsn : s.size = n := by rw [hs, hn]
  have HSTR : Hid (∀ w1 c', Below w.heap.size w w1 → (convert 111 9 (.slice (some ⟨gt, o, none⟩) n c')).run Tryz.prog w1 = .ok (.string s) w1) := Lib.hid (fun w1 c' hb => by
    have q := row8_str (c := c') (HR.out w1 hb) (by rw [Vi.nums_len, hsn])
    rw [str_nums] at q
    exact q)
  have hb1 : (o : Int) ≤ (o : Int) + (n : Int) := by omega
  have hb2 : (o : Int) + (n : Int) ≤ (T : Int) := by omega
  have hb3 : (o : Int) + (n : Int) ≤ (c : Int) := by omega
  have hto : ((o : Int) + (n : Int)).toNat - o = n := by omega
  have hgw : g < w.heap.size := blk_lt h1
  have H1 := Lib.hid h1
  clear h1 h2 h3 h4 hnt HR hs ho hn hT hsn
  go_enter Tryz.func118, Tryz.ntmps118
  go_wp2_with fail
  go_region_with (first | (go_at_call 150; refine (pend_any (o : Int) (n : Int) (by omega) (by omega) (by omega) (by omega) _).mono ?_; rintro e w1 ⟨rfl, hb⟩; have hw : Below w.heap.size w w1 := ((blk_new w _).drew).trans (hb.mono (by simp)); have hstr := fun c0 => HSTR.out w1 c0 hw; have hX := blk_keep2 hb (heap_alloc_new w (.cells #[.int .u64 (o : Int), .int .u32 (n : Int)] 102)); have q0 := cell_of_row w1 w.heap.size 0 _ _ _ hX; have q1 := cell_of_row w1 g 0 _ _ _ (blk_keep2 hw H1.out); clear hb hX))
  all_goals
    go_wp2_with fail
    go_ret
    exact ⟨rfl, by first | exact hw | exact Below.drew hw⟩
end Go.Proofs.YtlfahmdndlmhpaaGreatDoor
namespace Go.Proofs.YtlfahmdndlmhpaaGreatDoor
open Go.RowKit Go.ChangeShapes

theorem sum_keyed : Maps.Keyed Tryz.prog 40 := Maps.int_keyed Tryz.underlying40
theorem sum_key (s : ByteArray) : keyOf Tryz.prog 40 (.int .u64 (Fv.sum s)) = some (.int .u64 (Fv.sum s)) := Maps.keyOf_int_mk Tryz.underlying40 (wf_of_u64 (Fv.sum_bd s).1 (Fv.sum_bd s).2)
theorem ints_zero (w : World) : (zeroValue 202).run Tryz.prog w = .ok (.slice none 0 0) w := by kernel_rfl
/-- a look-up of a sum: the places that its bucket holds -/
theorem Pl.look {w : World} {g : Nat} {P : List ByteArray} {mv : Value} (h : Pl.mp w g P mv) (s : ByteArray) (hl : P.length ≤ 100000) : ∃ (A : Option Addr) (n c : Nat) (zs : List Int), (Instr.lookup 154 mv (.int .u64 (Fv.sum s)) false).run Tryz.prog w = .ok (.slice A n c) w ∧ n = zs.length ∧ n ≤ 100000 ∧ Reads w w.heap.size 1 A n (zs.map (Value.int .i64)) ∧ (∀ z ∈ zs, 0 ≤ z ∧ z < P.length) ∧ ∀ (j : Nat) (hj : j < P.length), P[j]'hj = s → (j : Int) ∈ zs := by
  rcases h with ⟨rfl, rfl⟩ | ⟨mb, D, rfl, _, h1, h2⟩
  · exact ⟨none, 0, 0, [], by kernel_rfl, rfl, by omega, Reads.none_, by simp, fun j hj => by simp at hj⟩
  · obtain ⟨v, zs, e1, e2, e3, e4, _⟩ := h1.at sum_keyed Tryz.underlying154 (ints_zero w) (by unfold maxLen; omega) (sum_key s)
    obtain ⟨A, c, rfl, _⟩ := own_slice e3.1
    have hd : dints (D.atKey (.int .u64 (Fv.sum s)) .nil) = zs := by rw [e2]; exact dints_row e3
    obtain ⟨q1, q2⟩ := h2 (Fv.sum s)
    rw [hd] at q1 q2
    exact ⟨A, _, c, zs, e1, rfl, by omega, Reads.of_own e3.1, q1, fun j hj e => q2 j hj (by rw [e])⟩
theorem str_ne {t s : ByteArray} (h : t ≠ s) : (t.toList == s.toList) = false := by
  rw [beq_eq_false_iff_ne, ByteArray.toList_eq, ByteArray.toList_eq]
  exact fun e => h (ByteArray.ext (Array.toList_inj.1 e))
def FindR (P : List ByteArray) (s : ByteArray) (e : Ending) : Prop :=
  (s ∈ P ∧ e = .returned (.tuple #[.agg #[.int .u64 (Pl.pos P s : Int), .int .u32 (s.size : Int)], .bool true])) ∨ (s ∉ P ∧ e = .returned (.tuple #[.agg #[.int .u64 0, .int .u32 0], .bool false]))
def FindPost (P : List ByteArray) (s : ByteArray) (w : World) (e : Ending) (w' : World) : Prop := FindR P s e ∧ Below w.heap.size w w'
set_option maxRecDepth 100000 in
set_option maxHeartbeats 4000000 in
theorem find_any (g : Nat) (P : List ByteArray) (s : ByteArray) (w : World) (h : Pl.at_ w g P) (hnd : P.Nodup) (hne : ∀ t ∈ P, 0 < t.size) (hz : ∀ t ∈ P, t.size ≤ 65536) (ht : Pl.tot P ≤ 1000000) (hl : P.length ≤ 100000) (hs : s.size ≤ 65536) :
    Calls Tryz.prog 76 #[.pointer (some ⟨g, 0, none⟩), .string s] w (FindPost P s w) := by
  have HAT := Lib.hid h
  obtain ⟨vt, vp, mv, h1, h2, h3, h4⟩ := h
  have H1 := Lib.hid h1
  have H3 := Lib.hid h3
  have H4 := Lib.hid h4
  have HND := Lib.hid hnd
  have HNE := Lib.hid (And.intro hne hz)
  have hgw : g < w.heap.size := blk_lt h1
  obtain ⟨Ap, cp, hvp, hcp⟩ := own_slice h3
  have HVP := Lib.hid hvp
  have c2 := cell_of_row w g 2 _ _ _ h1
  clear h1 h2 h3 h4 hnd hne hz hvp
  go_enter Tryz.func76, Tryz.ntmps76
  go_wp2_with fail
  go_region_with (first | (go_at_call 117; refine (sum_any s (by omega) _).mono ?_; rintro e w1 ⟨rfl, hb⟩; have hw : Below w.heap.size w w1 := ((blk_new w _).drew).trans (hb.mono (by simp)); obtain ⟨A, n, c, zs, hlk, hn, hnl, hr, hz1, hz2⟩ := Pl.look (Pl.mp_same H4.out (fun _ _ hk _ => blk_keep2 hw hk)) s hl; have q2 := cell_of_row w1 g 2 _ _ _ (blk_keep2 hw H1.out); have HX := Lib.hid (blk_keep2 hb (heap_alloc_new w (.cells #[.int .u64 0, .int .u32 0] 102))); have HN := Lib.hid hn; have HR := Lib.hid hr; have HZ1 := Lib.hid hz1; have HZ2 := Lib.hid hz2; clear hb hn hr hz1 hz2))
  all_goals
    clear hlk c2 q2
    have HW := Lib.hid hw
    have hzw := hw.size
    have hxw : w.heap.size < w1.heap.size := blk_lt HX.out
    clear hw
    go_wp2_with fail
    simp only [List.getElem_toArray, List.getElem_cons_succ, List.getElem_cons_zero, Act.put, List.setIfInBounds_toArray, List.set_cons_succ, List.set_cons_zero]
    go_loopw [20] (fun ca wr => ∃ a : Nat, a ≤ n ∧ ca = .int .i64 a ∧ Hid (∀ (j : Nat) (hj : j < P.length), P[j]'hj = s → ∃ b, a ≤ b ∧ zs[b]? = some (j : Int)) ∧ Below w1.heap.size w1 wr) (fun ca _ => n - (intOf ca).toNat)
    case atStart => exact ⟨0, by omega, rfl, Lib.hid (fun j hj hq => by obtain ⟨b, hb, he⟩ := List.getElem_of_mem (HZ2.out j hj hq); exact ⟨b, by omega, by rw [List.getElem?_eq_getElem hb, he]⟩), Below.refl _ _⟩
    case round =>
      obtain ⟨a, ha, rfl, HLEFT, hbl⟩ := hrel
      have hS := hbl.size
      by_cases hlt : a < n
      · have hlt' : a < zs.length := by rw [← HN.out]; exact hlt
        obtain ⟨hz0, hz1⟩ := HZ1.out _ (List.getElem_mem hlt')
        obtain ⟨k, hk⟩ : ∃ k : Nat, zs[a]'hlt' = (k : Int) := ⟨(zs[a]'hlt').toNat, by omega⟩
        have hkP : k < P.length := by omega
        obtain ⟨gz, oz, hAz, -, -⟩ := HR.out.num HN.out a hlt'
        have HR' := HR.out
        subst hAz
        obtain ⟨_, _, e3, hgz, hcz⟩ := (HR'.below hbl).num HN.out a hlt'
        injection e3 with e3
        injection e3 with e4 e5 _
        subst e4
        subst e5
        rw [hk] at hcz
        obtain ⟨gp, cp', hvp, hgp, hgpl⟩ := H3.out.form (by omega)
        have hpc := ccells_get P 0 k hkP
        rw [Nat.zero_add] at hpc
        have hbw := HW.out.trans (hbl.mono hzw)
        have h3' := H3.out
        rw [hvp] at h3'
        have d0 : wr.cell? ⟨gp, k * 2, none⟩ = some (.int .u64 ((Pl.tot (P.take k) : Nat) : Int)) := (hbw.cell (p := ⟨gp, k * 2, none⟩) hgpl).trans (by have q := h3'.cells (g := gp) rfl (k * 2) _ hpc.1; rw [add_plain, Nat.zero_add] at q; exact q)
        have d1 : wr.cell? ⟨gp, k * 2 + 1, none⟩ = some (.int .u32 ((P[k]'hkP).size : Int)) := (hbw.cell (p := ⟨gp, k * 2 + 1, none⟩) hgpl).trans (by have q := h3'.cells (g := gp) rfl (k * 2 + 1) _ hpc.2; rw [add_plain, Nat.zero_add] at q; exact q)
        have e1 : wr.cell? ⟨g, 1, none⟩ = some vp := cell_of_row wr g 1 _ _ _ ((hbw.block g hgw).trans H1.out)
        rw [hvp] at e1
        have HATR := Lib.hid (Pl.at_below (Pl.at_below HAT.out hbw) (blk_new wr (.cells #[.int .u64 ((Pl.tot (P.take k) : Nat) : Int), .int .u32 ((P[k]'hkP).size : Int)] 102)))
        have hsk := HNE.out.1 _ (List.getElem_mem hkP)
        have HPOS := Lib.hid (Pl.pos_get HND.out k hkP)
        have HMEM := Lib.hid (List.getElem_mem hkP)
        have HK := Lib.hid hk
        have HX2 := Lib.hid (blk_keep2 hbl HX.out)
        have HBW := Lib.hid hbw
        have HSC := Lib.hid (pat_any g P k _ HATR.out hkP hsk ht)
        have hkz : (k : Int) < (P.length : Int) := by omega
        obtain ⟨t, htk⟩ : ∃ t, t = P[k]'hkP := ⟨_, rfl⟩
        obtain ⟨o, ho⟩ : ∃ o, o = Pl.tot (P.take k) := ⟨_, rfl⟩
        rw [← htk] at d1 HSC HPOS HMEM
        rw [← ho] at d0 HSC HPOS
        have HTK := Lib.hid htk
        have hgr : gp < wr.heap.size := by omega
        have hxr : w.heap.size < wr.heap.size := by omega
        clear hpc hbw h3' hvp HR' hk htk ho hsk hz0 hz1
        go_wp2_with fail
        refine HSC.out.mono ?_; rintro e w3 ⟨rfl, hb3⟩
        have HT8 := Lib.hid (blk_keep2 hb3 (heap_alloc_new wr (.cells #[.int .u64 (o : Int), .int .u32 (t.size : Int)] 102)))
        have HX3 := Lib.hid (blk_keep2 hb3 (blk_alloc HX2.out _))
        have HW3 := Lib.hid (HBW.out.trans (((blk_new wr _).trans (hb3.mono (by simp))).mono (by omega)))
        have HB3 := Lib.hid (hbl.trans (((blk_new wr _).trans (hb3.mono (by simp))).mono hS))
        have b0 := cell_of_row w3 wr.heap.size 0 _ _ _ HT8.out
        have b1 := cell_of_row w3 wr.heap.size 1 _ _ _ HT8.out
        clear d0 d1 e1 hcz hb3 hbl
        by_cases heq : t = s
        · subst heq
          have x0 := cell_of_row w3 w.heap.size 0 _ _ _ HX3.out
          have x1 := cell_of_row w3 w.heap.size 1 _ _ _ HX3.out
          have f0 : w3.frozen? ⟨w.heap.size, 0, none⟩ = false := by simp [World.frozen?, HX3.out]
          have f1 : w3.frozen? ⟨w.heap.size, 1, none⟩ = false := by simp [World.frozen?, HX3.out]
          go_wp2_with fail
          exact bodyPost_ret (v := .tuple #[.agg #[.int .u64 (o : Int), .int .u32 (t.size : Int)], .bool true]) (by simp [results, Tryz.results76, go_sem, x0, x1]) rfl ⟨Or.inl ⟨HMEM.out, by rw [HPOS.out]⟩, (HW3.out.setCell (Nat.le_refl _) _).setCell (Nat.le_refl _) _⟩
        · have hfb := str_ne heq
          have HLEFT2 : Hid (∀ (j : Nat) (hj : j < P.length), P[j]'hj = s → ∃ b, a + 1 ≤ b ∧ zs[b]? = some (j : Int)) := Lib.hid (fun j hj hq => by
            obtain ⟨b, hb, hz⟩ := HLEFT.out j hj hq
            rcases Nat.eq_or_lt_of_le hb with e | e
            · subst e
              rw [List.getElem?_eq_getElem hlt', HK.out] at hz
              have hjk : k = j := by injection hz with hz; omega
              subst hjk
              exact absurd (HTK.out.trans hq) heq
            · exact ⟨b, by omega, hz⟩)
          clear heq
          go_wp2_with fail
          exact ⟨⟨a + 1, by omega, by go_num, HLEFT2, HB3.out⟩, by simp [intOf]; omega⟩
      · have hno : s ∉ P := fun hm => by
          obtain ⟨j, hj, hq⟩ := List.getElem_of_mem hm
          obtain ⟨b, hb, hz⟩ := HLEFT.out j hj hq
          have h1 := (List.getElem?_eq_some_iff.1 hz).1
          have h2 := HN.out
          omega
        have HNO := Lib.hid hno
        have HX2 := Lib.hid (blk_keep2 hbl HX.out)
        have x0 := cell_of_row wr w.heap.size 0 _ _ _ HX2.out
        have x1 := cell_of_row wr w.heap.size 1 _ _ _ HX2.out
        have f0 : wr.frozen? ⟨w.heap.size, 0, none⟩ = false := by simp [World.frozen?, HX2.out]
        have f1 : wr.frozen? ⟨w.heap.size, 1, none⟩ = false := by simp [World.frozen?, HX2.out]
        have HW3 := Lib.hid (HW.out.trans (hbl.mono hzw))
        clear hno hbl
        go_wp2_with fail
        exact bodyPost_ret (v := .tuple #[.agg #[.int .u64 0, .int .u32 0], .bool false]) (by simp [results, Tryz.results76, go_sem, x0, x1]) rfl ⟨Or.inr ⟨HNO.out, rfl⟩, (HW3.out.setCell (Nat.le_refl _) _).setCell (Nat.le_refl _) _⟩
end Go.Proofs.YtlfahmdndlmhpaaGreatDoor
namespace Go.Proofs.YtlfahmdndlmhpaaGreatDoor
open Go.RowKit Go.ChangeMaps Go.MapKept

theorem int_zero (w : World) : (zeroValue 3).run Tryz.prog w = .ok (.int .i64 0) w := by kernel_rfl
theorem seen_one {w : World} {b : Nat} (h : w.ownsMap Tryz.prog 40 (plainElem (H := Unit) Tryz.prog 3) b 0 (.map [])) :
    (Instr.lookup 76 (.map (some b)) (.int .u64 0) false).run Tryz.prog w = .ok (.int .i64 0) w ∧
    ∃ w2, (Instr.mapUpdate 76 (.map (some b)) (.int .u64 0) (.int .i64 1)).run Tryz.prog w = .ok () w2 ∧ w2.ownsMap Tryz.prog 40 (plainElem (H := Unit) Tryz.prog 3) b 1 ((DataW.map []).put (.int .u64 0) (.lit (.int .i64 1))) ∧ w.grownBy w2 (some b) := by
  have hkey : keyOf Tryz.prog 40 (.int .u64 0) = some (.int .u64 0) := Maps.keyOf_int_mk Tryz.underlying40 (by decide)
  obtain ⟨c, h1, h2, _⟩ := h.lookup_int sum_keyed Tryz.underlying76 Tryz.underlying3 (int_zero w) hkey
  have h2' : (DataW.lit (.int .i64 0) : DataW Unit) = .lit (.int .i64 c) := h2
  injection h2' with h2'
  injection h2' with _ h2'
  subst h2'
  obtain ⟨w2, g1, g2, g3⟩ := h.update sum_keyed Tryz.underlying76 (by unfold maxLen; omega) hkey (plainElem_int Tryz.underlying3 (show (Lit.int .i64 1).wf = true by decide))
  exact ⟨h1, w2, g1, g2, g3⟩
theorem seen_two {w : World} {b : Nat} (h : w.ownsMap Tryz.prog 40 (plainElem (H := Unit) Tryz.prog 3) b 1 ((DataW.map []).put (.int .u64 0) (.lit (.int .i64 1)))) :
    (Instr.lookup 76 (.map (some b)) (.int .u64 0) false).run Tryz.prog w = .ok (.int .i64 1) w := by
  have hkey : keyOf Tryz.prog 40 (.int .u64 0) = some (.int .u64 0) := Maps.keyOf_int_mk Tryz.underlying40 (by decide)
  obtain ⟨c, h1, h2, _⟩ := h.lookup_int sum_keyed Tryz.underlying76 Tryz.underlying3 (int_zero w) hkey
  have h3 : (DataW.lit (.int .i64 1) : DataW Unit) = .lit (.int .i64 c) := (Maps.atKey_put_same (D := DataW.map []) ⟨[], rfl⟩ (sum_keyed.key hkey) _ _).symm.trans h2
  simp only [DataW.lit.injEq, Lit.int.injEq, true_and] at h3
  subst h3
  exact h1
def OfPost (w : World) (e : Ending) (w' : World) : Prop := ∃ g c, e = .returned (.tuple #[.agg #[.slice (some ⟨g, 0, none⟩) 1 c], .int .i64 0]) ∧ w'.ownsRow w.heap.size 45 2 (.slice (some ⟨g, 0, none⟩) 1 c) 1 [.int .u64 0, .string ⟨#[120]⟩] ∧ Below w.heap.size w w'
set_option maxRecDepth 100000 in
set_option maxHeartbeats 1000000 in
theorem of_one (g o c : Nat) (w : World) (hg : g < w.heap.size) (h0 : w.cell? ⟨g, o, none⟩ = some (.int .u64 0)) (h1 : w.cell? ⟨g, o + 1, none⟩ = some (.string ⟨#[120]⟩)) :
    Calls Tryz.prog 11 #[.slice (some ⟨g, o, none⟩) 1 c] w (OfPost w) := by
  have hmm := @run_makeMap Tryz.prog
  have HM : Hid (((w.alloc (.cells #[.slice none 0 0] 27)).alloc (.map #[] 0)).ownsMap Tryz.prog 40 (plainElem (H := Unit) Tryz.prog 3) (w.heap.size + 1) 0 (.map [])) := Lib.hid (by
    have := World.ownsMap_made (H := Unit) (w.alloc (.cells #[.slice none 0 0] 27)) Tryz.prog 40 (plainElem (H := Unit) Tryz.prog 3)
    simpa using this)
  obtain ⟨l1, w2, u1, own2, gr2⟩ := seen_one (HM.out.alloc (.cells #[.int .u64 0, .string ⟨#[120]⟩] 45))
  have l2 := seen_two own2
  have HI := blk_grown (heap_at (w := (w.alloc (.cells #[.slice none 0 0] 27)).alloc (.map #[] 0)) (o := .cells #[.int .u64 0, .string ⟨#[120]⟩] 45) (n := w.heap.size + 1 + 1) (by simp)) gr2 (fun k e => by cases e; omega)
  have HR := blk_grown (blk_alloc (blk_alloc (heap_alloc_new w (.cells #[.slice none 0 0] 27)) (.map #[] 0)) (.cells #[.int .u64 0, .string ⟨#[120]⟩] 45)) gr2 (fun k e => by cases e; omega)
  have hw2 : Below w.heap.size w w2 := ((by exact (by repeat (first | with_reducible exact Below.refl _ _ | with_reducible assumption | with_reducible refine Below.setCell ?_ (by first | (simp; done) | (simp; omega) | omega) _ | with_reducible refine Below.alloc ?_ (by first | exact Nat.le_refl _ | (simp; done) | (simp; omega) | omega) _ | with_reducible refine Below.drew ?_)) : Below w.heap.size w (((w.alloc (.cells #[.slice none 0 0] 27)).alloc (.map #[] 0)).alloc (.cells #[.int .u64 0, .string ⟨#[120]⟩] 45)))).grown gr2 (by simp; omega) (fun k e => by cases e; omega)
  have HI2 := Lib.hid HI
  have HR2 := Lib.hid HR
  have HW2 := Lib.hid hw2
  have d0 := cell_of_row w2 (w.heap.size + 1 + 1) 0 _ _ _ HI
  have d1 := cell_of_row w2 (w.heap.size + 1 + 1) 1 _ _ _ HI
  have hz2 : w.heap.size + 1 + 1 < w2.heap.size := blk_lt HI
  obtain ⟨i0, hi, iz0, iz1, iz2⟩ := info_parts item_info
  have hwr : Ch.wr 0 ⟨#[120]⟩ false = 0 := by decide
  clear gr2 own2 HI HR hw2
  go_enter Tryz.func11, Tryz.ntmps11
  go_wp2_with fail
  refine wp_loop_rounds 2 ?_
  rw [rounds_succ]
  go_wp2_with fail
  refine (wrong_any 0 ⟨#[120]⟩ false _ (by decide)).mono ?_; rintro e w3 ⟨he, rfl⟩
  rw [hwr] at he
  subst he
  clear l1 l2 u1
  go_wp2_with (at_builtin; go_must (refine wpList_append_own _ rfl (.tmp 39) (.tmp 41) 25 rfl (w.heap.size + 1) 45 i0 _ 2 24 Tryz.underlying25 hi iz0 iz1 iz2 rfl (by omega) _ 0 [] rfl (World.ownsRow_nil _ _ _ _) ⟨w2.heap.size, 0, none⟩ 1 1 [.int .u64 0, .string ⟨#[120]⟩] rfl rfl ?c1 ?c2 ?c3 ?c4 ?c5 ?_))
  case c1 => exact blkn (l := [.int .u64 0, .string ⟨#[120]⟩]) (heap_at (by simp))
  case c2 => intro u hu; simp at hu; rcases hu with rfl | rfl <;> rfl
  case c3 => simp only [maxLen]; omega
  case c4 => omega
  case c5 => simp; omega
  intro v6 w6 hown6 hgr6 _
  have hF6 : w6.heap[w.heap.size]? = some (.cells #[.slice none 0 0] 27 (0, 0)) := blk_grown (blk_alloc HR2.out _) hgr6 (fun k e => by cases e)
  have hw6 : Below w.heap.size w w6 := (HW2.out.alloc HW2.out.size (.cells #[.int .u64 0, .string ⟨#[120]⟩] 45)).grown hgr6 (by simp; omega) (fun k e => by cases e)
  obtain ⟨A6, c6, rfl, _⟩ := own_slice hown6
  obtain ⟨g6, c6', hv6, hg6, hgl6⟩ := hown6.form (by omega)
  injection hv6 with hv6 _ hcc
  subst hv6
  subst hcc
  have HO6 := Lib.hid hown6
  have z6 : w6.frozen? ⟨w.heap.size, 0, none⟩ = false := by simp [World.frozen?, hF6]
  have z7 := cell_of_row w6 w.heap.size 0 _ _ _ hF6
  have HF6 := Lib.hid hF6
  have HW6 := Lib.hid hw6
  clear hown6 hgr6 hF6 hw6 hi iz0 iz1 iz2 d0 d1
  go_wp2_with fail
  rw [rounds_succ]
  go_wp2_with fail
  refine (sort_one _ _ _ _).mono ?_; rintro e w7 ⟨rfl, rfl⟩
  go_wp2_with fail
  have hb8 : (w6.setCell ⟨w.heap.size, 0, none⟩ (.slice (some ⟨g6, 0, none⟩) 1 c6)).heap[w.heap.size]? = some (.cells #[.slice (some ⟨g6, 0, none⟩) 1 c6] 27 (0, 0)) := set_blk HF6.out
  have hO9 := ownsRow_setCell HO6.out (p := ⟨w.heap.size, 0, none⟩) (show w.heap.size < w.heap.size + 1 by omega) (.slice (some ⟨g6, 0, none⟩) 1 c6)
  have hO10 := ownsRow_base hO9 (base' := w.heap.size) (by omega)
  have hc8 := cell_of_row _ w.heap.size 0 _ _ _ hb8
  exact bodyPost_ret (v := .tuple #[.agg #[.slice (some ⟨g6, 0, none⟩) 1 c6], .int .i64 0]) (by simp [results, Tryz.results11, go_sem, hc8]) rfl ⟨g6, c6, rfl, hO10, HW6.out.setCell (by simp) _⟩
end Go.Proofs.YtlfahmdndlmhpaaGreatDoor
