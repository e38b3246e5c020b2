/- The walks of the document's Get, Del and Put of items: that they tell a list. The program's Take. -/
import Derived.Test.YtlfahmdndlmhpaaGreatDoorM07
import Derived.Test.YtlfahmdndlmhpaaGreatDoorM09
import Derived.Test.YtlfahmdndlmhpaaGreatDoorM08
import Derived.Test.YtlfahmdndlmhpaaGreatDoorM10
import Derived.Deep.DeepMust
import Derived.Test.YtlfahmdndlmhpaaGreatDoorM06
import Derived.Deep.Onto
namespace Go.Proofs.YtlfahmdndlmhpaaGreatDoor
open Go.RowKit

theorem ritem_info : (Tryz.prog.info? 47).map (fun i => (i.zero, i.size, i.bytes)) = some (some (.agg #[.int .u64 0, .string ⟨#[]⟩]), 2, 24) := by kernel_rfl
def RGet (w : World) (e : Ending) (w' : World) : Prop := ∃ s b, e = .returned (.tuple #[.string s, .bool b]) ∧ w = w'
theorem rget_any (A : Option Addr) (n cap : Nat) (L : List Itm) (B : Nat) (w : World) (id : Int) (hr : Reads w B 2 A n (icells L)) (hn : n = L.length) (hm : n ≤ 100000) :
    Calls Tryz.prog 36 #[.slice A n cap, .int .u64 id] w (RGet w) := by
  have HR := Lib.hid hr
  have HN := Lib.hid hn
  clear hr hn
  go_enter Tryz.func36, Tryz.ntmps36
  go_wp2_with fail
  go_loop [6] (fun ci => ∃ k : Nat, k ≤ n ∧ ci = .int .i64 k) (fun ci => n - (intOf ci).toNat)
  case atStart => exact ⟨0, by omega, rfl⟩
  case round =>
    obtain ⟨k, hk, rfl⟩ := hrel
    by_cases hlt : k < n
    · have hlt' : k < L.length := by rw [← HN.out]; omega
      obtain ⟨g, off, hA, hgB⟩ := HR.out.iplain (by omega) HN.out
      have HR' := HR.out
      rw [hA] at HR'
      subst hA
      obtain ⟨c0, c1⟩ := HR'.itm HN.out k hlt'
      obtain ⟨⟨i, s⟩, he⟩ : ∃ e, e = L[k]'hlt' := ⟨_, rfl⟩
      rw [← he] at c0 c1
      clear he HR'
      by_cases hi : i = id
      · subst hi
        go_wp2_with fail
        go_ret2
        exact ⟨s, true, rfl, rfl⟩
      · have hb : (i == id) = false := by simpa using hi
        go_wp2_with fail
        go_round
        case rel => exact ⟨k + 1, by omega, by go_num⟩
        case measure => simp [intOf]; omega
    · go_wp2_with fail
      go_ret2
      exact ⟨_, false, rfl, rfl⟩

def RDel (n : Nat) (w : World) (e : Ending) (w' : World) : Prop := ∃ v m D, e = .returned v ∧ m ≤ n ∧ w'.ownsRow w.heap.size 47 2 v m (icells D) ∧ Below w.heap.size w w'
theorem icells_two {D : List Itm} {m : Nat} {w : World} {base : Nat} {e : TypeId} {v : Value} (h : w.ownsRow base e 2 v m (icells D)) : m = D.length := by have := h.1; rw [icells_len] at this; omega
theorem blk_news2 {w : World} {g : Nat} {a b : Value} {t : TypeId} (h : w.heap[g]? = some (.cells #[a, b] t (0, 0))) : ∀ j u, [a, b][j]? = some u → w.cell? ((⟨g, 0, none⟩ : Addr).add j) = some u := by
  intro j u hu
  rw [add_plain, Nat.zero_add]
  rcases j with _ | _ | j
  · simp at hu; subst hu; exact cell_of_row _ _ 0 _ _ _ h
  · simp at hu; subst hu; exact cell_of_row _ _ 1 _ _ _ h
  · simp at hu
set_option maxHeartbeats 1000000 in
theorem rdel_any (A : Option Addr) (n cap : Nat) (L : List Itm) (B : Nat) (w : World) (id : Int) (hr : Reads w B 2 A n (icells L)) (hn : n = L.length) (hB : B ≤ w.heap.size) (hm : n ≤ 100000) :
    Calls Tryz.prog 37 #[.slice A n cap, .int .u64 id] w (RDel n w) := by
  have HR := Lib.hid hr
  have HN := Lib.hid hn
  clear hr hn
  obtain ⟨i0, hi, iz0, iz1, iz2⟩ := info_parts ritem_info
  go_enter Tryz.func37, Tryz.ntmps37
  go_wp2_with fail
  go_loopw [5, 6] (fun cv ci wr => ∃ k m D, k ≤ n ∧ ci = .int .i64 ((k : Nat) : Int) ∧ m ≤ k ∧ Hid (wr.ownsRow w.heap.size 47 2 cv m (icells D)) ∧ Below w.heap.size w wr) (fun _ ci _ => n - (intOf ci).toNat)
  case atStart => exact ⟨0, 0, [], by omega, rfl, by omega, Lib.hid (World.ownsRow_nil _ _ _ _), Below.refl _ _⟩
  case round =>
    obtain ⟨k, m, D, hk, rfl, hmk, hT, hbl⟩ := hrel
    have hS : w.heap.size ≤ wr.heap.size := hbl.size
    by_cases hlt : k < n
    · have hlt' : k < L.length := by rw [← HN.out]; omega
      obtain ⟨g, off, hA, hgB⟩ := HR.out.iplain (by omega) HN.out
      have HR' := HR.out
      rw [hA] at HR'
      subst hA
      obtain ⟨c0, c1⟩ := ((HR'.more hB).below hbl).itm HN.out k hlt'
      obtain ⟨⟨i, s⟩, he⟩ : ∃ e, e = L[k]'hlt' := ⟨_, rfl⟩
      rw [← he] at c0 c1
      have hlt2 := hT.out.lt
      clear he HR'
      by_cases hq : i = id
      · subst hq
        clear hlt2
        go_wp2_with fail
        exact ⟨⟨k + 1, m, D, by omega, by go_num, by omega, hT, hbl⟩, by simp [intOf]; omega⟩
      · have hb : (i != id) = true := by simpa using hq
        go_wp2_with (at_builtin; go_must (refine wpList_append_own _ rfl (.tmp 20) (.tmp 25) _ rfl w.heap.size 47 i0 _ 2 24 Tryz.underlying22 hi iz0 iz1 iz2 rfl (by omega) _ m (icells D) rfl (hT.out.alloc _) ⟨wr.heap.size, 0, none⟩ 1 1 [.int .u64 i, .string s] rfl (by simp; done) ?c1 ?c2 ?c3 ?c4 ?c5 ?_))
        case c2 => exact ⟨rfl, rfl⟩
        case c3 => simp only [maxLen]; omega
        case c4 => omega
        case c5 => first | omega | (simp; omega)
        intro v' w3 hown3 hgrow3 _
        have hb3 : Below w.heap.size w w3 := ((hbl.alloc hS _).grown hgrow3 (by simp; omega) (fun g hg => (hlt2 g hg).1))
        have hT3 : Hid (w3.ownsRow w.heap.size 47 2 v' (m + 1) (icells (D ++ [(i, s)]))) := Lib.hid (by rw [icells_snoc]; exact hown3)
        clear hown3 hgrow3 hlt2
        go_wp2_with fail
        exact ⟨⟨k + 1, m + 1, _, by omega, by go_num, by omega, hT3, hb3⟩, by simp [intOf]; omega⟩
    · have hkn : k = n := by omega
      subst hkn
      go_wp2_with fail
      go_ret
      exact ⟨_, m, D, rfl, hmk, hT.out, hbl⟩

theorem icells_three {w : World} {base q k : Nat} {e : TypeId} {v : Value} {D : List Itm} {id : Int} {s : ByteArray} (h : w.ownsRow base e 2 v q ((icells D).take (k * 2) ++ .int .u64 id :: .string s :: (icells D).drop (k * 2))) : w.ownsRow base e 2 v q (icells (D.take k ++ [(id, s)] ++ D.drop k)) := by
  rw [icells_append, icells_append, ← icells_take, ← icells_drop]
  simpa [icells, It.vals] using h
theorem news_two {i : Int} {s : ByteArray} : ∀ u ∈ [Value.int .u64 i, .string s], u.oneCell' = true := by intro u hu; simp at hu; rcases hu with rfl | rfl <;> rfl
def RPut (n : Nat) (w : World) (e : Ending) (w' : World) : Prop := ∃ A m c D f, e = .returned (.tuple #[.slice A m c, .int .i64 f]) ∧ m ≤ n + 1 ∧ m = D.length ∧ Reads w' w'.heap.size 2 A m (icells D) ∧ Below w.heap.size w w'
set_option maxRecDepth 100000 in
set_option maxHeartbeats 4000000 in
theorem rput_any (A : Option Addr) (n cap : Nat) (L : List Itm) (B : Nat) (w : World) (id : Int) (s : ByteArray) (hr : Reads w B 2 A n (icells L)) (hn : n = L.length) (hB : B ≤ w.heap.size) (hm : n ≤ 1000) (hz : s.size ≤ 140737488355328) :
    Calls Tryz.prog 15 #[.slice A n cap, .int .u64 id, .string s] w (RPut n w) := by
  have HR := Lib.hid hr
  have HN := Lib.hid hn
  clear hr hn
  obtain ⟨i0, hi, iz0, iz1, iz2⟩ := info_parts ritem_info
  have hself : Hid (∀ f, RPut n w (.returned (.tuple #[.slice A n cap, .int .i64 f])) w) := Lib.hid (fun f => ⟨A, n, cap, L, f, rfl, by omega, HN.out, HR.out.more hB, Below.refl _ _⟩)
  by_cases h1 : id ≥ 6004799503160661
  · go_enter Tryz.func15, Tryz.ntmps15
    go_wp2_with fail
    go_ret2
    exact hself.out 8
  by_cases h2 : s.size = 0
  · go_enter Tryz.func15, Tryz.ntmps15
    go_wp2_with fail
    go_ret2
    exact hself.out 2
  have h2' : ((s.size : Int) == 0) = false := by simpa using h2
  by_cases h3 : s.size > 65536
  · have h3' : (s.size : Int) > 65536 := by omega
    go_enter Tryz.func15, Tryz.ntmps15
    go_wp2_with fail
    go_ret2
    exact hself.out 5
  have h3' : ¬ (s.size : Int) > 65536 := by omega
  have hfull : ¬ (2048 : Int) ≤ (n : Int) := by omega
  have hfull2 : decide ((2048 : Int) ≤ (n : Int)) = false := decide_eq_false hfull
  go_enter Tryz.func15, Tryz.ntmps15
  go_wp2_with fail
  refine (rget_any A n cap L B _ id HR.out HN.out (by omega)).mono ?_; rintro e w1 ⟨t, b, rfl, rfl⟩
  cases b
  all_goals
    go_wp2_with fail
    refine (rdel_any A n cap L B _ id HR.out HN.out hB (by omega)).mono ?_; rintro e w2 ⟨v, m, D, rfl, hmn, hO, hb2⟩
    have hmD := icells_two hO
    obtain ⟨A2, c2, rfl, hc2⟩ := own_slice hO
    have HR2 := Lib.hid (Reads.of_own hO)
    have HD := Lib.hid hmD
    have HW2 := Lib.hid hb2
    have hz2 := hb2.size
    clear hO hmD hb2
    go_wp2_with fail
    go_loop [11] (fun ci => ∃ k : Nat, k ≤ m ∧ ci = .int .i64 k) (fun ci => m - (intOf ci).toNat)
    case atStart => exact ⟨0, by omega, rfl⟩
    case round =>
      obtain ⟨k, hk, rfl⟩ := hrel
      by_cases hgo : ∃ h : k < D.length, (D[k]'h).1 < id
      · obtain ⟨hlt', hx⟩ := hgo
        have hlt : k < m := by have := HD.out; omega
        obtain ⟨g, off, hA, hgB⟩ := HR2.out.iplain (by omega) HD.out
        have HR' := HR2.out
        rw [hA] at HR'
        subst hA
        obtain ⟨c0, c1⟩ := HR'.itm HD.out k hlt'
        obtain ⟨⟨i, t⟩, he⟩ : ∃ e, e = D[k]'hlt' := ⟨_, rfl⟩
        rw [← he] at c0 c1 hx
        clear he HR'
        dsimp only at hx
        go_wp2_with fail
        go_round
        case rel => exact ⟨k + 1, by omega, by go_num⟩
        case measure => simp [intOf]; omega
      · have HGO := Lib.hid hgo
        have hR4 := fun (w4 : World) (hb : Below w2.heap.size w2 w4) => ((HR2.out.below hb).cut (k := k) hk hc2)
        have HT1 := Lib.hid (HR2.out.take_ hk)
        have HR4 := Lib.hid hR4
        have hkb : (k : Int) ≤ (m : Int) := by omega
        have hk0 : (0 : Int) ≤ (k : Int) := by omega
        have HO1 : Hid (∀ u ∈ (icells D).take (k * 2), u.oneCell' = true) := Lib.hid (by rw [icells_take]; exact icells_one _)
        have HO3 : Hid (∀ u ∈ (icells D).drop (k * 2), u.oneCell' = true) := Lib.hid (by rw [icells_drop]; exact icells_one _)
        have HM1 := Lib.hid (show 0 + k ≤ maxLen ∧ k + 1 ≤ maxLen ∧ k + 1 + (m - k) ≤ maxLen by simp only [maxLen]; omega)
        have HM2 := Lib.hid (show (0 + k) * 24 ≤ 140737488355328 ∧ (k + 1) * 24 ≤ 140737488355328 ∧ (k + 1 + (m - k)) * 24 ≤ 140737488355328 by omega)
        clear hgo hR4
        rcases Nat.lt_or_ge k m with hlt | hlt
        case' inl =>
          have hlt' : k < D.length := by have := HD.out; omega
          obtain ⟨g, off, hA, hgB⟩ := HR2.out.iplain (by omega) HD.out
          have HR' := HR2.out
          rw [hA] at HR'
          subst hA
          obtain ⟨c0, c1⟩ := HR'.itm HD.out k hlt'
          obtain ⟨⟨i, t⟩, he⟩ : ∃ e, e = D[k]'hlt' := ⟨_, rfl⟩
          have hx : ¬ (D[k]'hlt').1 < id := fun h => HGO.out ⟨hlt', h⟩
          rw [← he] at c0 c1 hx
          have hR5 : ∀ w4, Below w2.heap.size w2 w4 → Reads w4 w2.heap.size 2 (some ⟨g, off + k * 2, none⟩) (m - k) ((icells D).drop (k * 2)) := fun w4 hb => by
            have h := HR4.out w4 hb
            rw [if_neg (by omega), Option.map_some, add_plain] at h
            exact h
          clear he HR' HR4
          have HR4 := Lib.hid hR5
          clear hR5
          dsimp only at hx
        case' inr =>
          obtain rfl : k = m := by omega
          have hm1 := HM1.out
          have hm2 := HM2.out
          rw [Nat.sub_self] at hm1 hm2
          clear HM1 HM2
          have HM1 := Lib.hid hm1
          have HM2 := Lib.hid hm2
          clear hm1 hm2
          by_cases hck : c2 = k
          case' pos =>
            have hR5 : ∀ w4, Below w2.heap.size w2 w4 → Reads w4 w2.heap.size 2 A2 0 ((icells D).drop (k * 2)) := fun w4 hb => by
              have h := HR4.out w4 hb
              rw [Nat.sub_self, if_pos hck] at h
              exact h
            clear HR4
            have HR4 := Lib.hid hR5
            clear hR5
          case' neg =>
            have hR5 : ∀ w4, Below w2.heap.size w2 w4 → Reads w4 w2.heap.size 2 (A2.map (·.add (k * 2))) 0 ((icells D).drop (k * 2)) := fun w4 hb => by
              have h := HR4.out w4 hb
              rw [Nat.sub_self, if_neg hck] at h
              exact h
            clear HR4
            have HR4 := Lib.hid hR5
            clear hR5
        all_goals
          go_wp2_with (at_builtin; go_must (refine wpList_append_any _ rfl (.tmp 56) (.tmp 59) _ rfl w2.heap.size 47 i0 _ 2 24 Tryz.underlying22 hi iz0 iz1 iz2 rfl (by omega) _ 0 [] rfl (World.ownsRow_nil _ _ _ _) _ _ k _ ((icells D).take (k * 2)) rfl HT1.out HO1.out HM1.out.1 HM2.out.1 (Nat.le_refl _) ?_))
          intro v3 w3 hown3 hgr3 _
          have hb3 : Below w2.heap.size w2 w3 := (Below.refl _ _).grown hgr3 (Nat.le_refl _) (fun g e => by cases e)
          have hz3 := hb3.size
          have HO3' : Hid (w3.ownsRow w2.heap.size 47 2 v3 k ((icells D).take (k * 2))) := Lib.hid (by simpa using hown3)
          have hlt3 := HO3'.out.lt
          clear hown3 hgr3
          go_wp2_with (at_builtin; go_must (refine wpList_append_own _ rfl (.tmp 61) (.tmp 65) _ rfl w2.heap.size 47 i0 _ 2 24 Tryz.underlying22 hi iz0 iz1 iz2 rfl (by omega) _ k ((icells D).take (k * 2)) rfl (HO3'.out.alloc _) ⟨w3.heap.size, 0, none⟩ 1 1 [.int .u64 id, .string s] rfl rfl (blk_news2 (heap_alloc_new w3 _)) news_two HM1.out.2.1 HM2.out.2.1 (by simp; omega) ?_))
          intro v4 w4 hown4 hgr4 _
          have hb4 : Below w2.heap.size w2 w4 := (hb3.alloc hz3 _).grown hgr4 (by simp; omega) (fun g hg => (hlt3 g hg).1)
          have hz4 := hb4.size
          have HO4 := Lib.hid hown4
          have hlt4 := HO4.out.lt
          clear hown4 hgr4 hlt3
          go_wp2_with (at_builtin; go_must (refine wpList_append_any _ rfl (.tmp 67) (.tmp 70) _ rfl w2.heap.size 47 i0 _ 2 24 Tryz.underlying22 hi iz0 iz1 iz2 rfl (by omega) v4 (k + 1) _ rfl HO4.out w2.heap.size _ _ _ _ rfl (HR4.out w4 hb4) HO3.out HM1.out.2.2 HM2.out.2.2 hz4 ?_))
          intro v5 w5 hown5 hgr5 _
          have hb5 : Below w2.heap.size w2 w5 := hb4.grown hgr5 hz4 (fun g hg => (hlt4 g hg).1)
          have HO5 := Lib.hid (icells_three hown5)
          clear hown5 hgr5 hlt4
          have HMD := Lib.hid (icells_two HO5.out)
          obtain ⟨A5, c5, rfl, hc5⟩ := own_slice HO5.out
          go_wp2_with fail
          go_ret2
          exact ⟨A5, _, c5, _, 0, rfl, by omega, HMD.out, Reads.of_own HO5.out, HW2.out.trans (hb5.mono hz2)⟩
end Go.Proofs.YtlfahmdndlmhpaaGreatDoor
namespace Go.Proofs.YtlfahmdndlmhpaaGreatDoor
open Go.RowKit

def Vi.rn (s : ByteArray) : Nat → Int → List Int × Int × Int
  | 0, a => ([], a, 0)
  | k + 1, a => if Vi.gb s a 0 = 0 then (Vi.gx s a 0 :: (Vi.rn s k (Vi.ga s a 0)).1, (Vi.rn s k (Vi.ga s a 0)).2) else ([], a, Vi.gb s a 0)
def Vi.tok (s : ByteArray) (a b n : Int) : Prop := b = 0 ∧ 0 ≤ a ∧ a ≤ s.size ∧ 0 ≤ n ∧ n ≤ 65536
instance (s : ByteArray) (a b n : Int) : Decidable (Vi.tok s a b n) := by unfold Vi.tok; infer_instance
def Vi.ta (s : ByteArray) (a b n : Int) : Int := if Vi.tok s a b n then (Vi.rn s n.toNat a).2.1 else a
def Vi.tb (s : ByteArray) (a b n : Int) : Int := if Vi.tok s a b n then (Vi.rn s n.toNat a).2.2 else if b = 0 then 2 else b
def Vi.tx (s : ByteArray) (a b n : Int) : List Int := if Vi.tb s a b n = 0 then (Vi.rn s n.toNat a).1 else []
theorem Vi.rn_yes {s : ByteArray} {k : Nat} {a : Int} (h : Vi.gb s a 0 = 0) : Vi.rn s (k + 1) a = (Vi.gx s a 0 :: (Vi.rn s k (Vi.ga s a 0)).1, (Vi.rn s k (Vi.ga s a 0)).2) := by rw [Vi.rn, if_pos h]
theorem Vi.rn_no {s : ByteArray} {k : Nat} {a : Int} (h : Vi.gb s a 0 ≠ 0) : Vi.rn s (k + 1) a = ([], a, Vi.gb s a 0) := by rw [Vi.rn, if_neg h]

def Row64 (w : World) (B : Nat) (v : Value) (l : List Int) : Prop := w.ownsRow B 40 1 v l.length (l.map (Value.int .u64))
def TkPost (l : List Int) (s : ByteArray) (a b : Int) (w : World) (e : Ending) (w' : World) : Prop := ∃ v, e = .returned (.tuple #[v, Sc s a b]) ∧ Row64 w' w.heap.size v l ∧ Below w.heap.size w w'
theorem Row64.nil (w : World) (B : Nat) : Row64 w B (.slice none 0 0) [] := World.ownsRow_nil _ _ _ _
theorem u64_info : (Tryz.prog.info? 40).map (fun i => (i.zero, i.size, i.bytes)) = some (some (.int .u64 0), 1, 8) := by kernel_rfl
theorem blk_set3 {w : World} {g : Nat} {a b c a' b' c' : Value} {t : TypeId} (h : w.heap[g]? = some (.cells #[a, b, c] t (0, 0))) :
    (((w.setCell ⟨g, 0, none⟩ a').setCell ⟨g, 1, none⟩ b').setCell ⟨g, 2, none⟩ c').heap[g]? = some (.cells #[a', b', c'] t (0, 0)) := by
  simp [World.setCell, Array.getElem?_modify, h]
theorem blk_far {w : World} {g g' i : Nat} {o : Obj} {u : Value} (h : w.heap[g]? = some o) (hn : g ≠ g') : (w.setCell ⟨g', i, none⟩ u).heap[g]? = some o :=
  (Below.heap_setCell w ⟨g', i, none⟩ u g hn).trans h
theorem blk_far3 {w : World} {g g' i j k : Nat} {o : Obj} {u v x : Value} (h : w.heap[g]? = some o) (hn : g ≠ g') : (((w.setCell ⟨g', i, none⟩ u).setCell ⟨g', j, none⟩ v).setCell ⟨g', k, none⟩ x).heap[g]? = some o :=
  blk_far (blk_far (blk_far h hn) hn) hn
theorem row_keep {w w' : World} {base size n : Nat} {e : TypeId} {v : Value} {xs : List Value} (h : w.ownsRow base e size v n xs) (hb : Below w.heap.size w w') : w'.ownsRow base e size v n xs := by
  obtain ⟨h1, h2⟩ := h
  refine ⟨h1, ?_⟩
  rcases h2 with h2 | ⟨g, cap, cur, hv, hg, hh, r⟩
  · exact Or.inl h2
  · exact Or.inr ⟨g, cap, cur, hv, hg, blk_keep hh hb, r⟩
theorem row_far {w : World} {B size n : Nat} {e : TypeId} {v : Value} {xs : List Value} {g i : Nat} {u : Value} (h : w.ownsRow B e size v n xs) (hg : g < B) : (w.setCell ⟨g, i, none⟩ u).ownsRow B e size v n xs := by
  obtain ⟨h1, h2⟩ := h
  refine ⟨h1, ?_⟩
  rcases h2 with h2 | ⟨g', cap, cur, hv, hb, hh, r⟩
  · exact Or.inl h2
  · exact Or.inr ⟨g', cap, cur, hv, hb, blk_far hh (by omega), r⟩

theorem row_far3 {w : World} {B size n : Nat} {e : TypeId} {v : Value} {xs : List Value} {g i j k : Nat} {u x y : Value} (h : w.ownsRow B e size v n xs) (hg : g < B) : (((w.setCell ⟨g, i, none⟩ u).setCell ⟨g, j, none⟩ x).setCell ⟨g, k, none⟩ y).ownsRow B e size v n xs :=
  row_far (row_far (row_far h hg) hg) hg
theorem blk_grown {w w' : World} {g : Nat} {o : Obj} {row : Option Nat} (h : w.heap[g]? = some o) (hg : w.grownBy w' row) (hn : ∀ k, row = some k → k ≠ g) : w'.heap[g]? = some o :=
  (hg.block g (blk_lt h) (fun e => hn g e.symm rfl)).trans h
theorem blk1c {w : World} {g : Nat} {a : Value} {t : TypeId} (h : w.heap[g]? = some (.cells #[a] t (0, 0))) : ∀ j u, [a][j]? = some u → w.cell? ((⟨g, 0, none⟩ : Addr).add j) = some u := by
  intro j u hu
  cases j with
  | zero => simp at hu; subst hu; exact cell_of_row w g 0 _ _ _ h
  | succ j => simp at hu

end Go.Proofs.YtlfahmdndlmhpaaGreatDoor
