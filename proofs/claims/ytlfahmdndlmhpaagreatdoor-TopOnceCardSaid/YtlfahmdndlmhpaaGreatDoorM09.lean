/- More small facts: own rows over other bases and stores; what a call changed where it wrote one block. The walks of lay, Clone, Put and All: numbers laid behind a row of bytes. Small aids: cells of literal rows, readable bytes. -/
import Derived.Test.YtlfahmdndlmhpaaGreatDoorM07
import Derived.Test.YtlfahmdndlmhpaaGreatDoorM04
import Derived.IntWalk
import Derived.Deep.DeepMust
import Derived.OwnWalk
import Derived.Laws.Rows
namespace Go.Proofs.YtlfahmdndlmhpaaGreatDoor
open Go.RowKit

theorem ownsRow_base {w : World} {base base' size n : Nat} {e : TypeId} {v : Value} {xs : List Value} (h : w.ownsRow base e size v n xs) (hb : base' ≤ base) : w.ownsRow base' e size v n xs := by
  obtain ⟨h1, h2⟩ := h
  refine ⟨h1, ?_⟩
  rcases h2 with h2 | ⟨g, cap, cur, hv, hg, hh, r⟩
  · exact Or.inl h2
  · exact Or.inr ⟨g, cap, cur, hv, by omega, hh, r⟩
theorem ownsRow_setCell {w : World} {base size n : Nat} {e : TypeId} {v : Value} {xs : List Value} (h : w.ownsRow base e size v n xs) {p : Addr} (hp : p.block < base) (u : Value) : (w.setCell p u).ownsRow base e size v n xs := by
  obtain ⟨h1, h2⟩ := h
  refine ⟨h1, ?_⟩
  rcases h2 with h2 | ⟨g, cap, cur, hv, hg, hh, r⟩
  · exact Or.inl h2
  · refine Or.inr ⟨g, cap, cur, hv, hg, ?_, r⟩
    rw [← hh]
    simp only [World.setCell, Array.getElem?_modify, if_neg (by omega : ¬ p.block = g)]
theorem blk_cell1 {w : World} {g : Nat} {a : Value} {t : TypeId} (h : w.heap[g]? = some (.cells #[a] t (0, 0))) : w.cell? ⟨g, 0, none⟩ = some a ∧ w.frozen? ⟨g, 0, none⟩ = false := ⟨cell_of_row w g 0 _ _ _ h, by simp [World.frozen?, h]⟩
theorem blk_new1 {a w : World} (h : Below a.heap.size a w) (o : Obj) : Below a.heap.size a (w.alloc o) := h.alloc h.size _
theorem cell_al {w : World} {p : Addr} {v : Value} (h : w.cell? p = some v) (o : Obj) : (w.alloc o).cell? p = some v := by
  have hlt : p.block < w.heap.size := by
    rcases Nat.lt_or_ge p.block w.heap.size with hlt | hge
    · exact hlt
    · simp [World.cell?, Array.getElem?_eq_none hge] at h
  exact (((Below.refl w.heap.size w).alloc (Nat.le_refl _) o).cell hlt).trans h
/-- a call that wrote one block -/
theorem gr_below {B : Nat} {w w' : World} {g : Nat} (h : w.grownBy w' (some g)) (hB : B ≤ g) (hw : B ≤ w.heap.size) : Below B w w' := (Below.refl B w).grown h hw (fun k e => by cases e; exact hB)
theorem gr_set (w : World) (g off : Nat) (v : Value) : w.grownBy (w.setCell ⟨g, off, none⟩ v) (some g) :=
  ⟨rfl, rfl, rfl, by simp, fun k _ hk => by
    have : ¬ g = k := fun e => hk (by rw [e])
    simp only [World.setCell, Array.getElem?_modify, if_neg this]⟩
theorem gr_of {w w' : World} (h : Below w.heap.size w w') (row : Option Nat) : w.grownBy w' row := ⟨h.os, h.tape, h.output, h.size, fun k hk _ => h.block k hk⟩
theorem gr_keep {w w' : World} {g k : Nat} {o : Obj} (h : w.grownBy w' (some g)) (hk : w.heap[k]? = some o) (hn : k ≠ g) : w'.heap[k]? = some o := (h.block k (blk_lt hk) (fun e => hn (by cases e; rfl))).trans hk
theorem set_blk {w : World} {g i : Nat} {cs : Array Value} {t : TypeId} {fr : Nat × Nat} {u : Value} (h : w.heap[g]? = some (.cells cs t fr)) : (w.setCell ⟨g, i, none⟩ u).heap[g]? = some (.cells (cs.setIfInBounds i u) t fr) := by
  simp [World.setCell, Array.getElem?_modify, h]
theorem set_far {w : World} {g k i : Nat} {o : Obj} {u : Value} (h : w.heap[k]? = some o) (hn : k ≠ g) : (w.setCell ⟨g, i, none⟩ u).heap[k]? = some o := by
  simp only [World.setCell, Array.getElem?_modify, if_neg (Ne.symm hn)]
  exact h
theorem below_set {B : Nat} {a w : World} (h : Below B a w) {g i : Nat} (hg : B ≤ g) (u : Value) : Below B a (w.setCell ⟨g, i, none⟩ u) := h.setCell hg u
end Go.Proofs.YtlfahmdndlmhpaaGreatDoor
namespace Go.Proofs.YtlfahmdndlmhpaaGreatDoor
open Go.RowKit

theorem u8_info : (Tryz.prog.info? 5).map (fun i => (i.zero, i.size, i.bytes)) = some (some (.int .u8 0), 1, 1) := by kernel_rfl
/-- an own row of bytes -/
def Row8 (w : World) (B : Nat) (v : Value) (l : List Int) : Prop := w.ownsRow B 5 1 v l.length (l.map (Value.int .u8))
theorem or128 (x : Int) : bits .or .u8 (x % 256) 128 = x % 128 + 128 := by
  have h1 : ∀ k : Fin 256, bits .or .u8 (k.val : Int) 128 = (k.val : Int) % 128 + 128 := by decide +kernel
  have h2 := h1 ⟨(x % 256).toNat, by omega⟩
  have h3 : (((x % 256).toNat : Nat) : Int) = x % 256 := by omega
  simp only [h3] at h2
  rw [h2]
  omega

theorem blk1 {w : World} {g : Nat} {a : Value} {t : TypeId} (h : w.heap[g]? = some (.cells #[a] t (0, 0))) : ∀ j u, [a][j]? = some u → w.cell? ((⟨g, 0, none⟩ : Addr).add j) = some u := by
  intro j u hu
  cases j with
  | zero => simp at hu; subst hu; exact cell_of_row w g 0 _ _ _ h
  | succ j => simp at hu

set_option maxHeartbeats 1000000 in
theorem lay_any (v : Value) (pre : List Int) (x : Int) (B : Nat) (w : World) (hT : Row8 w B v pre) (hB : B ≤ w.heap.size) (h0 : 0 ≤ x) (h1 : x < 18446744073709551616) (hn : pre.length ≤ 1000000) :
    Calls Tryz.prog 84 #[v, .int .u64 x] w fun e w' => ∃ v', e = .returned v' ∧ Row8 w' B v' (pre ++ Vi.bytes x) ∧ Below B w w' := by
  obtain ⟨i0, hi, iz0, iz1, iz2⟩ := info_parts u8_info
  have HT := Lib.hid hT
  clear hT
  go_enter Tryz.func84, Tryz.ntmps84
  go_wp2_with fail
  go_loopw [0, 1] (fun cv cx wr => ∃ (f : Nat) (y : Int) (ys : List Int), f ≤ 9 ∧ cx = .int .u64 y ∧ (0 ≤ y ∧ y < 18446744073709551616) ∧ Hid (y < Vi.cap f) ∧ Hid (Vi.bytes x = ys ++ Vi.enc f y) ∧ Hid (Row8 wr B cv (pre ++ ys)) ∧ Hid (ys.length + f = 9) ∧ Below B w wr) (fun _ cx _ => (intOf cx).toNat)
  case atStart => exact ⟨9, x, [], by omega, rfl, ⟨h0, h1⟩, Lib.hid (by rw [Vi.cap9]; exact h1), Lib.hid rfl, Lib.hid (by rw [List.append_nil]; exact HT.out), Lib.hid rfl, Below.refl _ _⟩
  case round =>
    obtain ⟨f, y, ys, hf, rfl, ⟨hy0, hy1⟩, hc, hb, hR, hl, hbl⟩ := hrel
    by_cases hlt : 127 < y
    · obtain ⟨g, rfl⟩ := Vi.cap_big hc.out hlt
      have hc2 := Lib.hid (Vi.cap_div hc.out)
      have hb2 : Hid (Vi.bytes x = (ys ++ [y % 128 + 128]) ++ Vi.enc g (y / 128)) := Lib.hid (by rw [hb.out, Vi.enc_big g hlt]; simp)
      have hor := or128 y
      have hlen : (pre ++ ys).length ≤ 1000009 := by rw [List.length_append]; have := hl.out; omega
      obtain ⟨m, hm⟩ : ∃ m, m = (pre ++ ys).length := ⟨_, rfl⟩
      rw [← hm] at hlen
      have HM := Lib.hid hm
      have hO := hR.out
      unfold Row8 at hO
      rw [← hm] at hO
      have hlt2 := hO.lt
      clear hm hc hb
      go_wp2_with (at_builtin; go_must (refine wpList_append_own _ rfl (.tmp 7) (.tmp 11) _ rfl B 5 i0 _ 1 1 Tryz.underlying111 hi iz0 iz1 iz2 rfl (by omega) _ m _ rfl (hO.alloc _) ⟨wr.heap.size, 0, none⟩ 1 1 [.int .u8 (y % 128 + 128)] rfl rfl ?c1 ?c2 ?c3 ?c4 ?c5 ?_))
      case c1 => intro j u hu; exact blk1 (heap_alloc_new wr _) j u hu
      case c2 => intro u hu; simp at hu; rcases hu with rfl; rfl
      case c3 => simp only [maxLen]; omega
      case c4 => omega
      case c5 => have := hbl.size; simp; omega
      intro v' w3 hown3 hgrow3 _
      have hS : B ≤ wr.heap.size := Nat.le_trans hB hbl.size
      have hb3 : Below B w w3 := (hbl.alloc hS _).grown hgrow3 (by simp; omega) (fun g hg => (hlt2 g hg).1)
      have hR3 : Hid (Row8 w3 B v' (pre ++ (ys ++ [y % 128 + 128]))) := Lib.hid (by
        have hl' : (pre ++ (ys ++ [y % 128 + 128])).length = m + 1 := by rw [HM.out]; simp; omega
        unfold Row8
        rw [hl']
        simpa using hown3)
      clear hown3 hgrow3 hlt2 hO
      go_wp2_with fail
      exact ⟨⟨g, y / 128, ys ++ [y % 128 + 128], by omega, rfl, by omega, hc2, hb2, hR3, Lib.hid (by rw [List.length_append]; have := hl.out; simp; omega), hb3⟩, by simp [intOf]; omega⟩
    · have hz : Hid (Vi.bytes x = ys ++ [y]) := Lib.hid (by rw [hb.out, Vi.enc_small f (by omega)])
      have hlen : (pre ++ ys).length ≤ 1000009 := by rw [List.length_append]; have := hl.out; omega
      obtain ⟨m, hm⟩ : ∃ m, m = (pre ++ ys).length := ⟨_, rfl⟩
      rw [← hm] at hlen
      have HM := Lib.hid hm
      have hO := hR.out
      unfold Row8 at hO
      rw [← hm] at hO
      have hlt2 := hO.lt
      have h256 : y % 256 = y := by omega
      clear hm hc hb
      go_wp2_with (at_builtin; go_must (refine wpList_append_own _ rfl (.tmp 15) (.tmp 18) _ rfl B 5 i0 _ 1 1 Tryz.underlying111 hi iz0 iz1 iz2 rfl (by omega) _ m _ rfl (hO.alloc _) ⟨wr.heap.size, 0, none⟩ 1 1 [.int .u8 y] rfl rfl ?d1 ?d2 ?d3 ?d4 ?d5 ?_))
      case d2 => rfl
      case d3 => simp only [maxLen]; omega
      case d4 => omega
      case d5 => have := hbl.size; simp; omega
      intro v' w3 hown3 hgrow3 _
      have hS : B ≤ wr.heap.size := Nat.le_trans hB hbl.size
      have hb3 : Below B w w3 := (hbl.alloc hS _).grown hgrow3 (by simp; omega) (fun g hg => (hlt2 g hg).1)
      have hR3 : Hid (Row8 w3 B v' (pre ++ Vi.bytes x)) := Lib.hid (by
        have hl' : (pre ++ Vi.bytes x).length = m + 1 := by rw [hz.out, HM.out]; simp; omega
        unfold Row8
        rw [hl', hz.out]
        simpa using hown3)
      clear hown3 hgrow3 hlt2 hO
      go_wp2_with fail
      go_ret
      exact ⟨_, rfl, hR3.out, hb3⟩

theorem one8 (l : List Int) : ∀ u ∈ l.map (Value.int .u8), u.oneCell' = true := by
  intro u hu
  obtain ⟨x, _, rfl⟩ := List.mem_map.1 hu
  rfl
theorem Row8.slice {w : World} {B : Nat} {v : Value} {l : List Int} (h : Row8 w B v l) : ∃ A c, v = .slice A l.length c ∧ l.length ≤ c := by
  rcases h.2 with ⟨rfl, h0⟩ | ⟨g, cap, cur, rfl, _, _, hc, _⟩
  · exact ⟨none, 0, by rw [h0], by omega⟩
  · exact ⟨_, _, rfl, hc⟩
theorem Row8.keep {w w' : World} {B : Nat} {v : Value} {l : List Int} (h : Row8 w B v l) (hb : Below w.heap.size w w') : Row8 w' B v l := by
  obtain ⟨h1, h2⟩ := h
  refine ⟨h1, ?_⟩
  rcases h2 with h2 | ⟨g, cap, cur, hv, hg, hh, r⟩
  · exact Or.inl h2
  · exact Or.inr ⟨g, cap, cur, hv, hg, blk_keep hh hb, r⟩
theorem Row8.nil (w : World) (B : Nat) : Row8 w B (.slice none 0 0) [] := World.ownsRow_nil _ _ _ _
def Row8Post (B : Nat) (l : List Int) (w : World) (e : Ending) (w' : World) : Prop := ∃ v', e = .returned v' ∧ Row8 w' B v' l ∧ Below B w w'

set_option maxHeartbeats 1000000 in
theorem clone8_any (A : Option Addr) (n cap : Nat) (l : List Int) (B : Nat) (w : World) (hr : Reads w B 1 A n (l.map (Value.int .u8))) (hn : n = l.length) (hB : B ≤ w.heap.size) (hm : n ≤ 100000) :
    Calls Tryz.prog 151 #[.slice A n cap] w (Row8Post w.heap.size l w) := by
  obtain ⟨i0, hi, iz0, iz1, iz2⟩ := info_parts u8_info
  have hq := Lib.run_eql_slice_nil (P := Tryz.prog)
  cases A with
  | none =>
    have h0 : n = 0 := by
      rcases Nat.eq_zero_or_pos n with h | h
      · exact h
      · obtain ⟨ad, h2, _⟩ := hr.2 h; cases h2
    subst h0
    have hl : l = [] := List.eq_nil_of_length_eq_zero hn.symm
    subst hl
    clear hr hn
    go_enter Tryz.func151, Tryz.ntmps151
    go_wp2_with fail
    go_ret
    exact ⟨_, rfl, Row8.nil _ _, Below.refl _ _⟩
  | some ad =>
    have HR := Lib.hid hr
    have HN := Lib.hid hn
    clear hr hn
    go_enter Tryz.func151, Tryz.ntmps151
    have HL := Lib.hid (World.ownsRow_lit (base := w.heap.size) (e := 5) (size := 1) w #[] 0 (Nat.le_refl _) (by simp [maxLen]) rfl)
    go_wp2_with (at_builtin; go_must (refine wpList_append_any _ rfl (.tmp 5) (.tmp 6) _ rfl w.heap.size 5 i0 _ 1 1 Tryz.underlying111 hi iz0 iz1 iz2 rfl (by omega) (.slice (some ⟨w.heap.size, 0, none⟩) 0 0) 0 [] rfl HL.out B (some ad) n cap (l.map (Value.int .u8)) rfl (HR.out.alloc hB _) (one8 l) ?c1 ?c2 ?c3 ?_))
    case c1 => simp only [maxLen]; omega
    case c2 => omega
    intro v3 w3 hown3 hgr3 hat3
    have hb3 : Below w.heap.size w w3 := ((Below.refl _ _).alloc (Nat.le_refl _) _).grown hgr3 (by simp) (fun k hk => (HL.out.lt k hk).1)
    have hR3 : Hid (Row8 w3 w.heap.size v3 l) := Lib.hid (by unfold Row8; rw [← HN.out]; simpa using hown3)
    clear hown3 hgr3 hat3
    go_wp2_with fail
    go_ret
    exact ⟨_, rfl, hR3.out, hb3⟩

/-- the cell of a number in a list of numbers -/
theorem Reads.num {w : World} {B n : Nat} {A : Option Addr} {k : IntKind} {l : List Int} (h : Reads w B 1 A n (l.map (Value.int k))) (hn : n = l.length) (i : Nat) (hi : i < l.length) :
    ∃ g off, A = some ⟨g, off, none⟩ ∧ g < B ∧ w.cell? ⟨g, off + i, none⟩ = some (.int k (l[i]'hi)) := by
  obtain ⟨ad0, u0, hA0, _, _, hc0⟩ := h.at_ (k := 0) (by omega)
  obtain ⟨ad, u, hA, hb, hx, hc⟩ := h.at_ (k := i) (by omega)
  rw [hA] at hA0
  injection hA0 with hA0
  subst hA0
  subst hA
  have hs := World.cell?_spot hc0
  obtain ⟨g, off, s⟩ := ad
  have hs' : s = none := by simpa [Addr.add] using hs
  subst hs'
  have ha : (⟨g, off, none⟩ : Addr).add i = ⟨g, off + i, none⟩ := by
    unfold Addr.add
    by_cases hm : i = 0
    · subst hm; rfl
    · rw [if_neg hm]
  rw [ha] at hc
  rw [List.getElem?_map, List.getElem?_eq_getElem hi] at hx
  simp at hx
  subst hx
  exact ⟨g, off, rfl, hb, hc⟩

set_option maxHeartbeats 1000000 in
theorem all_any (A : Option Addr) (n cap : Nat) (l : List Int) (B : Nat) (w : World) (hr : Reads w B 1 A n (l.map (Value.int .u64))) (hn : n = l.length) (hf : ∀ x ∈ l, 0 ≤ x ∧ x < 18446744073709551616) (hB : B ≤ w.heap.size) (hm : n ≤ 10000) :
    Calls Tryz.prog 51 #[.slice A n cap] w (Row8Post w.heap.size (Vi.all l) w) := by
  have HR := Lib.hid hr
  have HN := Lib.hid hn
  have HF := Lib.hid hf
  clear hr hn hf
  go_enter Tryz.func51, Tryz.ntmps51
  go_wp2_with fail
  go_loopw [3, 8] (fun cv ci wr => ∃ k : Nat, k ≤ n ∧ ci = .int .i64 k ∧ Hid (Row8 wr w.heap.size cv (Vi.all (l.take k))) ∧ Below w.heap.size w wr) (fun _ ci _ => n - (intOf ci).toNat)
  case atStart => exact ⟨0, by omega, rfl, Lib.hid (Row8.nil _ _), Below.refl _ _⟩
  case round =>
    obtain ⟨k, hk, rfl, hT, hbl⟩ := hrel
    by_cases hlt : k < n
    · have hlt' : k < l.length := by rw [← HN.out]; exact hlt
      obtain ⟨g, off, rfl, hg, hc⟩ := ((HR.out.more hB).below hbl).num HN.out k hlt'
      have hx := HF.out _ (List.getElem_mem hlt')
      have hs : Vi.all (l.take (k + 1)) = Vi.all (l.take k) ++ Vi.bytes (l[k]'hlt') := by rw [List.take_succ_eq_append_getElem hlt', Vi.all_snoc]
      have hlen := Vi.all_len (l.take k)
      have hlk := List.length_take_le k l
      obtain ⟨x, he⟩ : ∃ x, x = l[k]'hlt' := ⟨_, rfl⟩
      rw [← he] at hc hx hs
      have HS := Lib.hid hs
      have HX := Lib.hid hx
      have HLEN : Hid ((Vi.all (l.take k)).length ≤ 1000000) := Lib.hid (by omega)
      clear hx hs he hlen hlk
      go_wp2_with fail
      refine (lay_any _ (Vi.all (l.take k)) x w.heap.size _ hT.out hbl.size HX.out.1 HX.out.2 HLEN.out).mono ?_
      intro e w2 hp
      obtain ⟨v', he, hR, hb2⟩ := hp
      subst he
      have HR2 : Hid (Row8 w2 w.heap.size v' (Vi.all (l.take (k + 1)))) := Lib.hid (by rw [HS.out]; exact hR)
      have hw := hbl.trans hb2
      clear hR hc
      go_wp2_with fail
      exact ⟨⟨k + 1, by omega, by go_num, HR2, hw⟩, by simp [intOf]; omega⟩
    · have hkn : k = n := by omega
      subst hkn
      have hz : l.take k = l := List.take_of_length_le (by rw [← HN.out]; omega)
      have HZ := Lib.hid hz
      clear hz
      go_wp2_with fail
      go_ret
      exact ⟨_, rfl, by have h := hT.out; rwa [HZ.out] at h, hbl⟩

end Go.Proofs.YtlfahmdndlmhpaaGreatDoor
namespace Go.Proofs.YtlfahmdndlmhpaaGreatDoor
open Go.RowKit

theorem heap_at {w : World} {o : Obj} {n : Nat} (h : n = w.heap.size) : (w.alloc o).heap[n]? = some o := by subst h; exact heap_alloc_new w o
theorem hid_drew {w : World} {g : Nat} {o : Obj} (h : Hid (w.heap[g]? = some o)) : Hid (w.drew.heap[g]? = some o) := Lib.hid h.out
theorem blkn {w : World} {g : Nat} {l : List Value} {t : TypeId} {fr : Nat × Nat} (h : w.heap[g]? = some (.cells l.toArray t fr)) : ∀ j u, l[j]? = some u → w.cell? ((⟨g, 0, none⟩ : Addr).add j) = some u := by
  intro j u hu
  rw [add_plain, Nat.zero_add, cell_of_row _ g j _ _ _ h]
  simpa using hu
theorem reads_cells {w : World} {g n B : Nat} {l : List Value} {t : TypeId} {fr : Nat × Nat} (h : w.heap[g]? = some (.cells l.toArray t fr)) (hn : l.length = n) (hB : g < B) : Reads w B 1 (some ⟨g, 0, none⟩) n l :=
  ⟨by omega, fun _ => ⟨_, rfl, hB, blkn h⟩⟩
/-- bytes that a call hands back, wherever they lie -/
def Rd8 (w : World) (v : Value) (l : List Int) : Prop := ∃ A c, v = .slice A l.length c ∧ l.length ≤ c ∧ Reads w w.heap.size 1 A l.length (l.map (Value.int .u8))
def Rd8Post (l : List Int) (w : World) (e : Ending) (w' : World) : Prop := ∃ v, e = .returned v ∧ Rd8 w' v l ∧ Below w.heap.size w w'
theorem Rd8.of_row {w : World} {B : Nat} {v : Value} {l : List Int} (h : Row8 w B v l) : Rd8 w v l := by
  obtain ⟨A, c, rfl, hc⟩ := h.slice
  exact ⟨A, c, rfl, hc, Reads.of_own h⟩
theorem Rd8.keep {w w' : World} {v : Value} {l : List Int} (h : Rd8 w v l) (hb : Below w.heap.size w w') : Rd8 w' v l := by
  obtain ⟨A, c, rfl, hc, hr⟩ := h
  exact ⟨A, c, rfl, hc, (hr.below hb).more hb.size⟩
section
variable {P : Program}
theorem run_exec_load_row {o : Oper} {ev : Operand → Value} {w : World} (ty : TypeId) (x : Operand) (ho : o.op = .load ty x)
    (g : Nat) (hx : ev x = .pointer (some ⟨g, 0, none⟩)) (t : TypeId) (cs : Array Value) (fr : Nat × Nat) (d : TypeDesc) (hg : w.heap[g]? = some (.cells cs t fr))
    (hu : P.underlying ty = some d) (hd : (match d with | .struct _ | .array _ _ => true | _ => false) = true) (hi : (P.info? ty).map (·.size) = some cs.size) :
    (execOp ev o).run P w = .ok (.value (.agg cs)) w := by
  unfold execOp
  simp only [ho, hx, Instr.loadAt, Instr.sureAddr, Sem.run_bind, Sem.run_pure, Result.andThen_ok, run_loadVar_row w g t ty cs fr d hg hu hd hi]
/-- a struct among two results, read as one row -/
theorem results_row_tmp {fn : Func} {p q : Tmp} {ty : TypeId} (h : fn.results = #[.cell p ty, .tmp q]) (tmps : Array Value) (w : World) (g : Nat) (t : TypeId) (cs : Array Value) (fr : Nat × Nat) (d : TypeDesc) (v : Value)
    (hp : tmps.getD p undef = .pointer (some ⟨g, 0, none⟩)) (hq : tmps.getD q undef = v) (hg : w.heap[g]? = some (.cells cs t fr))
    (hu : P.underlying ty = some d) (hd : (match d with | .struct _ | .array _ _ => true | _ => false) = true) (hi : (P.info? ty).map (·.size) = some cs.size) :
    (results fn tmps).run P w = .ok (.tuple #[.agg cs, v]) w := by
  have hp' : tmps[p]?.getD undef = .pointer (some ⟨g, 0, none⟩) := by simpa using hp
  have hq' : tmps[q]?.getD undef = v := by simpa using hq
  simp [results, h, hp', hq', asAddr, run_loadVar_row w g t ty cs fr d hg hu hd hi]
theorem results_row_tmp2 {fn : Func} {p q r : Tmp} {ty : TypeId} (h : fn.results = #[.cell p ty, .tmp q, .tmp r]) (tmps : Array Value) (w : World) (g : Nat) (t : TypeId) (cs : Array Value) (fr : Nat × Nat) (d : TypeDesc) (v u : Value)
    (hp : tmps.getD p undef = .pointer (some ⟨g, 0, none⟩)) (hq : tmps.getD q undef = v) (hr : tmps.getD r undef = u) (hg : w.heap[g]? = some (.cells cs t fr))
    (hu : P.underlying ty = some d) (hd : (match d with | .struct _ | .array _ _ => true | _ => false) = true) (hi : (P.info? ty).map (·.size) = some cs.size) :
    (results fn tmps).run P w = .ok (.tuple #[.agg cs, v, u]) w := by
  have hp' : tmps[p]?.getD undef = .pointer (some ⟨g, 0, none⟩) := by simpa using hp
  have hq' : tmps[q]?.getD undef = v := by simpa using hq
  have hr' : tmps[r]?.getD undef = u := by simpa using hr
  simp [results, h, hp', hq', hr', asAddr, run_loadVar_row w g t ty cs fr d hg hu hd hi]
theorem results_row_row_tmp {fn : Func} {p q r : Tmp} {ty ty' : TypeId} (h : fn.results = #[.cell p ty, .cell q ty', .tmp r]) (tmps : Array Value) (w : World) (g g' : Nat) (t t' : TypeId) (cs cs' : Array Value) (fr fr' : Nat × Nat) (d d' : TypeDesc) (u : Value)
    (hp : tmps.getD p undef = .pointer (some ⟨g, 0, none⟩)) (hq : tmps.getD q undef = .pointer (some ⟨g', 0, none⟩)) (hr : tmps.getD r undef = u) (hg : w.heap[g]? = some (.cells cs t fr)) (hg' : w.heap[g']? = some (.cells cs' t' fr'))
    (hu : P.underlying ty = some d) (hd : (match d with | .struct _ | .array _ _ => true | _ => false) = true) (hi : (P.info? ty).map (·.size) = some cs.size)
    (hu' : P.underlying ty' = some d') (hd' : (match d' with | .struct _ | .array _ _ => true | _ => false) = true) (hi' : (P.info? ty').map (·.size) = some cs'.size) :
    (results fn tmps).run P w = .ok (.tuple #[.agg cs, .agg cs', u]) w := by
  have hp' : tmps[p]?.getD undef = .pointer (some ⟨g, 0, none⟩) := by simpa using hp
  have hq' : tmps[q]?.getD undef = .pointer (some ⟨g', 0, none⟩) := by simpa using hq
  have hr' : tmps[r]?.getD undef = u := by simpa using hr
  simp [results, h, hp', hq', hr', asAddr, run_loadVar_row w g t ty cs fr d hg hu hd hi, run_loadVar_row w g' t' ty' cs' fr' d' hg' hu' hd' hi']
theorem results_tmp_row {fn : Func} {p q : Tmp} {ty : TypeId} (h : fn.results = #[.tmp q, .cell p ty]) (tmps : Array Value) (w : World) (g : Nat) (t : TypeId) (cs : Array Value) (fr : Nat × Nat) (d : TypeDesc) (v : Value)
    (hp : tmps.getD p undef = .pointer (some ⟨g, 0, none⟩)) (hq : tmps.getD q undef = v) (hg : w.heap[g]? = some (.cells cs t fr))
    (hu : P.underlying ty = some d) (hd : (match d with | .struct _ | .array _ _ => true | _ => false) = true) (hi : (P.info? ty).map (·.size) = some cs.size) :
    (results fn tmps).run P w = .ok (.tuple #[v, .agg cs]) w := by
  have hp' : tmps[p]?.getD undef = .pointer (some ⟨g, 0, none⟩) := by simpa using hp
  have hq' : tmps[q]?.getD undef = v := by simpa using hq
  simp [results, h, hp', hq', asAddr, run_loadVar_row w g t ty cs fr d hg hu hd hi]
end
end Go.Proofs.YtlfahmdndlmhpaaGreatDoor
