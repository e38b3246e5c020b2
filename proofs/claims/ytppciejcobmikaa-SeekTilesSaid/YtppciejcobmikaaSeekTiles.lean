/- The walks of slices.Clone at entries, of seek.Tiles, and of the iterator that it hands back. -/
import Derived.Test.YtppciejcobmikaaSeekTs
import Derived.Test.YtppciejcobmikaaEntRow
import Derived.RangeFuncBox
import Derived.Shelf.Abstract
import Derived.Shelf.RegionOpen
import Derived.OwnWalkIn
import Derived.TacticsInMore
import Derived.LoopNIn
import Derived.LoopIn
namespace Go.Proofs.Ytppciejcobmikaa
open Go.RowKit Go.Shelf

theorem ownsRow_base {w : World} {base base' size n : Nat} {e : TypeId} {v : Value} {xs : List Value} (h : w.ownsRow base e size v n xs) (hb : base' ≤ base) : w.ownsRow base' e size v n xs := by
  obtain ⟨h1, h2⟩ := h
  refine ⟨h1, ?_⟩
  rcases h2 with h2 | ⟨g, cap, cur, hv, hg, hh, r⟩
  · exact Or.inl h2
  · exact Or.inr ⟨g, cap, cur, hv, by omega, hh, r⟩
theorem ownsRow_setCell {w : World} {base size n : Nat} {e : TypeId} {v : Value} {xs : List Value} (h : w.ownsRow base e size v n xs) {p : Addr} (hp : p.block < base) (u : Value) : (w.setCell p u).ownsRow base e size v n xs := by
  obtain ⟨h1, h2⟩ := h
  refine ⟨h1, ?_⟩
  rcases h2 with h2 | ⟨g, cap, cur, hv, hg, hh, r⟩
  · exact Or.inl h2
  · refine Or.inr ⟨g, cap, cur, hv, hg, ?_, r⟩
    rw [← hh]
    simp only [World.setCell, Array.getElem?_modify, if_neg (by omega : ¬ p.block = g)]

set_option maxHeartbeats 1000000 in
theorem entclone_any (A : Option Addr) (n cap : Nat) (L : List Ent) (B : Nat) (w : World) (hr : Reads w B 4 A n (ecells L)) (hn : n = L.length) (hB : B ≤ w.heap.size) (hm : n ≤ 100000) :
    Calls Try.prog 65 #[.slice A n cap] w fun e w' => OwnPost 26 L w e w' := by
  obtain ⟨i0, hi, iz0, iz1, iz2⟩ := info_parts ent_info
  have hq := Lib.run_eql_slice_nil (P := Try.prog)
  cases A with
  | none =>
    have h0 : n = 0 := by
      rcases Nat.eq_zero_or_pos n with h | h
      · exact h
      · obtain ⟨ad, h2, _⟩ := hr.2 h; cases h2
    subst h0
    have hl : L = [] := List.eq_nil_of_length_eq_zero hn.symm
    subst hl
    clear hr hn
    go_enter Try.func65, Try.ntmps65
    go_wp2_with fail
    go_ret
    exact ⟨_, rfl, World.ownsRow_nil _ _ _ _, Below.refl _ _⟩
  | some ad =>
    have HR := Lib.hid hr
    have HN := Lib.hid hn
    clear hr hn
    go_enter Try.func65, Try.ntmps65
    have HL := Lib.hid (World.ownsRow_lit (base := w.heap.size) (e := 26) (size := 4) w #[] 0 (Nat.le_refl _) (by simp [maxLen]) rfl)
    go_wp2_with (at_builtin; go_must (refine wpList_append_any _ rfl (.tmp 5) (.tmp 6) _ rfl w.heap.size 26 i0 _ 4 24 Try.underlying37 hi iz0 iz1 iz2 rfl (by omega) (.slice (some ⟨w.heap.size, 0, none⟩) 0 0) 0 [] rfl HL.out B (some ad) n cap (ecells L) rfl (HR.out.alloc hB _) (ecells_one L) ?c1 ?c2 ?c3 ?_))
    case c1 => simp only [maxLen]; omega
    case c2 => omega
    intro v3 w3 hown3 hgr3 hat3
    have hb3 : Below w.heap.size w w3 := ((Below.refl _ _).alloc (Nat.le_refl _) _).grown hgr3 (by simp) (fun k hk => (HL.out.lt k hk).1)
    have hR3 : Hid (w3.ownsRow w.heap.size 26 4 v3 L.length (ecells L)) := Lib.hid (by rw [← HN.out]; simpa using hown3)
    clear hown3 hgr3 hat3
    go_wp2_with fail
    go_ret
    exact ⟨_, rfl, hR3.out, hb3⟩

def TilesPost (L : List Ent) (w : World) (e : Ending) (w' : World) : Prop :=
  ∃ v Bs, e = .returned (.func (.func 66) #[] #[.pointer (some ⟨Bs, 0, none⟩)]) ∧ w.heap.size ≤ Bs ∧ Bs < w'.heap.size ∧ w'.cell? ⟨Bs, 0, none⟩ = some v ∧ w'.ownsRow w.heap.size 26 4 v (Sk.own L).length (ecells (Sk.own L)) ∧ Below w.heap.size w w'
set_option maxHeartbeats 1000000 in
theorem tiles_any (A : Option Addr) (n cap : Nat) (L : List Ent) (B : Nat) (w : World) (hr : Reads w B 4 A n (ecells L)) (hn : n = L.length) (hf : En.fits L) (hB : B ≤ w.heap.size) (hm : n ≤ 140737488355328) :
    Calls Try.prog 42 #[.slice A n cap] w fun e w' => TilesPost L w e w' := by
  have HR := Lib.hid hr
  have HN := Lib.hid hn
  have HF := Lib.hid hf
  clear hr hn hf
  by_cases h : En.row L = 0
  · have hq : (En.row L == 0) = true := by rw [h]; rfl
    have hl := En.row_len h
    rw [← HN.out] at hl
    have ho : Sk.own L = L := if_pos h
    have HO := Lib.hid ho
    clear h ho
    go_enter Try.func42, Try.ntmps42
    go_wp2_with fail
    refine (row_any _ _ _ L _ _ (HR.out.alloc hB _) HN.out HF.out (by simp; omega) hm).mono ?_; rintro e w1 ⟨rfl, hb⟩
    have HB := Lib.hid (blk_one hb).1
    have hz := (blk_one hb).2.1
    have hw := (blk_one hb).2.2
    clear hb
    go_wp2_with fail
    refine (entclone_any _ _ _ L _ _ (HR.out.below (hw.mono hB)) HN.out (Nat.le_trans hB hw.size) (by omega)).mono ?_
    intro e w2 hp
    obtain ⟨v, he, hO, hb⟩ := hp
    subst he
    have HB := Lib.hid (blk_keep2 hb HB.out)
    have HV := Lib.hid hO
    have hz2 : w1.heap.size ≤ w2.heap.size := hb.size
    have hw := bthen2 hb hw
    have b0 := cell_of_row w2 w.heap.size 0 _ _ _ HB.out
    have f0 : w2.frozen? ⟨w.heap.size, 0, none⟩ = false := by simp [World.frozen?, HB.out]
    clear hO hb
    obtain ⟨A', k', hv, _⟩ := own_slice HV.out
    rw [hv] at HV
    subst hv
    go_wp2_with fail
    go_ret
    refine ⟨_, _, rfl, Nat.le_refl _, by simp; omega, World.cell?_setCell_same' _ _ _ (by rw [b0]; rfl), ?_, hw.setCell (Nat.le_refl _) _⟩
    rw [HO.out]
    exact ownsRow_base (ownsRow_setCell HV.out (by simpa using hz) _) (by omega)
  · have hq : (En.row L == 0) = false := by simpa using h
    have ho : Sk.own L = [] := if_neg h
    have HO := Lib.hid ho
    clear h ho
    go_enter Try.func42, Try.ntmps42
    go_wp2_with fail
    refine (row_any _ _ _ L _ _ (HR.out.alloc hB _) HN.out HF.out (by simp; omega) hm).mono ?_; rintro e w1 ⟨rfl, hb⟩
    have HB := Lib.hid (blk_one hb).1
    have hz := (blk_one hb).2.1
    have hw := (blk_one hb).2.2
    clear hb
    go_wp2_with fail
    go_ret
    refine ⟨_, _, rfl, Nat.le_refl _, hz, cell_of_row w1 w.heap.size 0 _ _ _ HB.out, ?_, hw⟩
    rw [HO.out]
    exact World.ownsRow_nil _ _ _ _

def tEnc (x : Int × Ent) : Array Value := #[.int .u64 x.1, .agg #[.int .u64 x.2.1, .int .u64 x.2.2.1, .int .u32 x.2.2.2.1, .int .u32 x.2.2.2.2]]
theorem AbidesFrom.alloc {β : Type} {B : Nat} {J : β → World → Prop} (h : AbidesFrom B J) {s : β} {W : World} (o : Obj) (hs : J s W) : J s (W.alloc o) :=
  h s W _ none hs (World.grownBy_alloc W o none) (fun r e => by cases e)

attribute [local go_sem] Oper.semAt_some
set_option maxRecDepth 100000 in
set_option maxHeartbeats 2000000 in
theorem tiles1_in (F : Fence) (n : Nat) (h6 : F.fn 66) (hro : F.round = none) (hn : 1 ≤ n) (l Bs g D len cap : Nat) (M : List Ent) (hlen : len = M.length) (hm : len ≤ 100000) (hf : En.fits M) (hsum : ∀ e ∈ M, e.1 + e.2.2.2 < 18446744073709551616)
    (J Jx : List (Sk.T M) → World → Prop) (W : World) (hD : D ≤ W.heap.size) (hJ : AbidesFrom W.heap.size J)
    (hY : ∀ pre x W1, J pre W1 → pre.length < (Sk.ts M).length → YieldAt F (n - 1) Try.prog l (tEnc x.1) W1 fun e W' =>
      (e = .returned (.bool true) ∧ J (pre ++ [x]) W' ∧ Kpt g D W1 W') ∨ (e = .returned (.bool false) ∧ Jx (pre ++ [x]) W'))
    (hBs : W.cell? ⟨Bs, 0, none⟩ = some (.slice (some ⟨g, 0, none⟩) len cap)) (hE : EntBlk 26 g M W) (h0 : J [] W) :
    CallsIn F n Try.prog 66 #[.func (.yield l) #[] #[], .pointer (some ⟨Bs, 0, none⟩)] W fun e W' => (∃ v, e = .returned v) ∧
      ((∃ ys, ys = (Sk.ts M).attach ∧ J ys W') ∨ (∃ pre, pre <+: (Sk.ts M).attach ∧ Jx pre W')) := by
  have HN := Lib.hid hlen
  have HF := Lib.hid hf
  have HS := Lib.hid hsum
  have HJ := Lib.hid hJ
  have HY := Lib.hid hY
  have HE := Lib.hid hE
  have H0 := Lib.hid h0
  clear hlen hf hsum hJ hY hE h0
  refine callsIn_of_wp Try.func66 rfl h6 ?_ hro
  simp only [Try.ntmps66, List.size_toArray, List.length_cons, List.length_nil, Nat.reduceAdd, Nat.reduceSub, Array.replicate_succ, Array.replicate_zero, List.push_toArray, List.append_toArray, List.nil_append, List.cons_append]
  gi_wp2
  gi_loopw [8] (fun ci wr => ∃ i : Nat, i ≤ len ∧ ci = .int .i64 i ∧ Hid (J ((Sk.ts M).attach.take (Sk.off M i)) wr) ∧ Hid (EntBlk 26 g M wr) ∧ D ≤ wr.heap.size) (fun ci _ => len - (intOf ci).toNat)
  case atStart => exact ⟨0, by omega, rfl, H0, HE, hD⟩
  case round =>
    obtain ⟨i, hi, rfl, hJ1, hE1, hD1⟩ := hrel
    by_cases hlt : i < len
    · have hlt' : i < M.length := by rw [← HN.out]; exact hlt
      obtain ⟨c0, c1, c2, c3⟩ := hE1.out.ent i hlt'
      have hg := HF.out _ (List.getElem_mem hlt')
      have hsm := HS.out _ (List.getElem_mem hlt')
      have hos := Sk.off_succ M i hlt'
      have hget := fun k => Sk.ts_get M i k hlt'
      have hole := fun k => Sk.off_le M i k hlt'
      obtain ⟨e, he⟩ : ∃ e, e = M[i]'hlt' := ⟨_, rfl⟩
      rw [← he] at c0 c1 c2 c3 hg hsm hos hget hole
      clear he
      obtain ⟨eid, eo, el, er⟩ := e
      obtain ⟨⟨i0, i1⟩, ⟨o0, o1⟩, ⟨l0, l1⟩, r0, r1⟩ := hg
      dsimp only at i0 i1 o0 o1 l0 l1 r0 r1 hsm hos hget hole
      obtain ⟨rn, hrn⟩ : ∃ rn : Nat, er = (rn : Int) := ⟨er.toNat, by omega⟩
      subst hrn
      rw [Int.toNat_natCast] at hos hget hole
      have HOS := Lib.hid hos
      have HG := Lib.hid hget
      have HOL := Lib.hid hole
      clear hos hget hole
      gi_wp2
      obtain ⟨wo, hwo⟩ : ∃ wo : World, wo = wr := ⟨_, rfl⟩
      rw [← hwo] at hJ1 hE1 hD1 ⊢
      clear c0 c1 c2 c3 hwo
      have hbx := heap_alloc_new wo (.cells #[.int .u64 eid, .int .u64 eo, .int .u32 el, .int .u32 (rn : Int)] 26)
      gi_loopw [14] (fun ck wr => ∃ k : Nat, k ≤ rn ∧ ck = .int .u32 k ∧ Hid (J ((Sk.ts M).attach.take (Sk.off M i + k)) wr) ∧ Hid (EntBlk 26 g M wr) ∧ Hid (wr.heap[wo.heap.size]? = some (.cells #[.int .u64 eid, .int .u64 eo, .int .u32 el, .int .u32 (rn : Int)] 26))) (fun ck _ => rn - (intOf ck).toNat)
      case atStart => exact ⟨0, by omega, rfl, Lib.hid (by rw [Nat.add_zero]; exact AbidesFrom.alloc HJ.out _ hJ1.out), Lib.hid (hE1.out.below (blk_new _ _)), Lib.hid hbx⟩
      case round =>
        obtain ⟨k, hk, rfl, hJ2, hE2, hB2⟩ := hrel
        have hbs := blk_lt hB2.out
        obtain ⟨b0, b1, b2, b3⟩ := blk_cells4 hB2.out
        by_cases hlk : k < rn
        · obtain ⟨hx, htk⟩ := Sk.attach_take _ _ (HG.out k hlk)
          obtain ⟨fn, tmps, assign, body, hy, hR⟩ := HY.out _ ⟨_, hx⟩ wr hJ2.out (by rw [List.length_take]; have := HOL.out k hlk; omega)
          dsimp only [tEnc] at hy
          rw [← htk] at hR
          have HR := Lib.hid hR
          clear htk hR
          have hki : eid + (k : Int) < 18446744073709551616 := by omega
          gi_wp2
          refine HR.out.mono ?_
          rintro e W3 (⟨rfl, hJ3, hk3⟩ | ⟨rfl, hJx3⟩)
          · gi_wp2
            go_roundw
            case rel => exact ⟨k + 1, by omega, by go_num, Lib.hid hJ3, Lib.hid (hE2.out.kpt hk3), Lib.hid (hk3 _ _ (Or.inr hD1) hB2.out rfl)⟩
            case measure => simp [intOf]; omega
          · gi_wp2
            refine bodyPost_ret (results_none rfl _ _ _) rfl ?_
            exact ⟨⟨_, rfl⟩, .inr ⟨_, List.take_prefix _ _, hJx3⟩⟩
        · obtain rfl : k = rn := by omega
          have hJ4 : Hid (J ((Sk.ts M).attach.take (Sk.off M (i + 1))) wr) := Lib.hid (by rw [HOS.out]; exact hJ2.out)
          gi_wp2
          go_roundw
          case rel => exact ⟨i + 1, by omega, by go_num, hJ4, hE2, by omega⟩
          case measure => simp [intOf]; omega
    · obtain rfl : i = len := by omega
      have hz : (Sk.ts M).attach.take (Sk.off M i) = (Sk.ts M).attach := List.take_of_length_le (by rw [HN.out, Sk.off_all]; simp)
      have HZ := Lib.hid hz
      clear hz
      gi_wp2
      go_end0
      exact ⟨⟨_, rfl⟩, .inl ⟨_, rfl, by have h := hJ1.out; rw [HZ.out] at h; exact h⟩⟩

end Go.Proofs.Ytppciejcobmikaa
