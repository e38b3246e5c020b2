/- The walks of slices.Clone at entries, of pointer, and of the searches for one. The walk of leaves.piece. -/
import Derived.Test.YtlfahmdndlmhpaaGreatDoorM23
import Derived.Test.YtlfahmdndlmhpaaGreatDoorM09
import Derived.Test.YtlfahmdndlmhpaaGreatDoorM08
import Derived.Test.YtlfahmdndlmhpaaGreatDoorM29
import Derived.Shelf.Abstract
import Derived.Shelf.RegionOpen
import Derived.Test.YtlfahmdndlmhpaaGreatDoorM31
import Derived.Deep.QuietTactic
import Derived.BigQuiet
namespace Go.Proofs.YtlfahmdndlmhpaaGreatDoor
open Go.RowKit Go.Shelf

set_option maxHeartbeats 1000000 in
theorem entclone_any (A : Option Addr) (n cap : Nat) (L : List Ent) (B : Nat) (w : World) (hr : Reads w B 4 A n (ecells L)) (hn : n = L.length) (hB : B ≤ w.heap.size) (hm : n ≤ 100000) :
    Calls Tryz.prog 48 #[.slice A n cap] w fun e w' => OwnPost 43 L w e w' := by
  obtain ⟨i0, hi, iz0, iz1, iz2⟩ := info_parts ent_info
  have hq := Lib.run_eql_slice_nil (P := Tryz.prog)
  cases A with
  | none =>
    have h0 : n = 0 := by
      rcases Nat.eq_zero_or_pos n with h | h
      · exact h
      · obtain ⟨ad, h2, _⟩ := hr.2 h; cases h2
    subst h0
    have hl : L = [] := List.eq_nil_of_length_eq_zero hn.symm
    subst hl
    clear hr hn
    go_enter Tryz.func48, Tryz.ntmps48
    go_wp2_with fail
    go_ret
    exact ⟨_, rfl, World.ownsRow_nil _ _ _ _, Below.refl _ _⟩
  | some ad =>
    have HR := Lib.hid hr
    have HN := Lib.hid hn
    clear hr hn
    go_enter Tryz.func48, Tryz.ntmps48
    have HL := Lib.hid (World.ownsRow_lit (base := w.heap.size) (e := 43) (size := 4) w #[] 0 (Nat.le_refl _) (by simp [maxLen]) rfl)
    go_wp2_with (at_builtin; go_must (refine wpList_append_any _ rfl (.tmp 5) (.tmp 6) _ rfl w.heap.size 43 i0 _ 4 24 Tryz.underlying35 hi iz0 iz1 iz2 rfl (by omega) (.slice (some ⟨w.heap.size, 0, none⟩) 0 0) 0 [] rfl HL.out B (some ad) n cap (ecells L) rfl (HR.out.alloc hB _) (ecells_one L) ?c1 ?c2 ?c3 ?_))
    case c1 => simp only [maxLen]; omega
    case c2 => omega
    intro v3 w3 hown3 hgr3 hat3
    have hb3 : Below w.heap.size w w3 := ((Below.refl _ _).alloc (Nat.le_refl _) _).grown hgr3 (by simp) (fun k hk => (HL.out.lt k hk).1)
    have hR3 : Hid (w3.ownsRow w.heap.size 43 4 v3 L.length (ecells L)) := Lib.hid (by rw [← HN.out]; simpa using hown3)
    clear hown3 hgr3 hat3
    go_wp2_with fail
    go_ret
    exact ⟨_, rfl, hR3.out, hb3⟩

theorem pointer_any (i o l r : Int) (w : World) : Calls Tryz.prog 46 #[.agg #[.int .u64 i, .int .u64 o, .int .u32 l, .int .u32 r]] w fun e w' => e = .returned (.bool (r == 0)) ∧ Below w.heap.size w w' := by
  by_cases h : r = 0
  · subst h
    have e1 : ((0 : Int) == 0) = true := rfl
    go_enter Tryz.func46, Tryz.ntmps46
    go_wp2_with fail
    go_ret
    exact ⟨rfl, (Below.refl _ _).alloc (Nat.le_refl _) _⟩
  · have e1 : (r == 0) = false := by simpa using h
    go_enter Tryz.func46, Tryz.ntmps46
    go_wp2_with fail
    go_ret
    exact ⟨by rw [e1]; rfl, (Below.refl _ _).alloc (Nat.le_refl _) _⟩
theorem idx_any (A : Option Addr) (n cap : Nat) (L : List Ent) (B : Nat) (w : World) (hr : Reads w B 4 A n (ecells L)) (hn : n = L.length) (hp : ∀ e ∈ L, e.2.2.2 ≠ 0) (hB : B ≤ w.heap.size) (hm : n ≤ 100000) :
    Calls Tryz.prog 79 #[.slice A n cap, .func (.func 46) #[] #[]] w fun e w' => e = .returned (.int .i64 (-1)) ∧ Below w.heap.size w w' := by
  have HR := Lib.hid hr
  have HN := Lib.hid hn
  have HP := Lib.hid hp
  clear hr hn hp
  go_enter Tryz.func79, Tryz.ntmps79
  go_wp2_with fail
  go_loopw [8] (fun ca wr => ∃ a : Nat, a ≤ n ∧ ca = .int .i64 a ∧ Below w.heap.size w wr) (fun ca _ => n - (intOf ca).toNat)
  case atStart => exact ⟨0, by omega, rfl, Below.refl _ _⟩
  case round =>
    obtain ⟨a, han, rfl, hbl⟩ := hrel
    by_cases hlt : a < n
    · have hlt' : a < L.length := by rw [← HN.out]; omega
      obtain ⟨g, off, hA, hgB⟩ := HR.out.plain (by omega) HN.out
      have HR' := HR.out
      rw [hA] at HR'
      subst hA
      obtain ⟨c0, c1, c2, c3⟩ := ((HR'.more hB).below hbl).ent HN.out a hlt'
      have hne := HP.out _ (List.getElem_mem hlt')
      obtain ⟨⟨i, o, l, r⟩, he⟩ : ∃ e, e = L[a]'hlt' := ⟨_, rfl⟩
      rw [← he] at c0 c1 c2 c3 hne
      have hrf : (r == 0) = false := by simpa using hne
      have HBL := Lib.hid hbl
      clear HR' he hne hbl
      go_wp2_with fail
      refine (pointer_any i o l r _).mono ?_; rintro e w1 ⟨rfl, hb1⟩
      rw [hrf]
      have hb := bthen HBL.out hb1
      clear c0 c1 c2 c3
      go_wp2_with fail
      exact ⟨⟨a + 1, by omega, rfl, hb⟩, by simp [intOf]; omega⟩
    · go_wp2_with fail
      go_ret
      exact ⟨rfl, hbl⟩
theorem contf_any (A : Option Addr) (n cap : Nat) (L : List Ent) (B : Nat) (w : World) (hr : Reads w B 4 A n (ecells L)) (hn : n = L.length) (hp : ∀ e ∈ L, e.2.2.2 ≠ 0) (hB : B ≤ w.heap.size) (hm : n ≤ 100000) :
    Calls Tryz.prog 45 #[.slice A n cap, .func (.func 46) #[] #[]] w fun e w' => e = .returned (.bool false) ∧ Below w.heap.size w w' := by
  have HR := Lib.hid hr
  have HN := Lib.hid hn
  have HP := Lib.hid hp
  clear hr hn hp
  go_enter Tryz.func45, Tryz.ntmps45
  go_wp2_with fail
  refine (idx_any A n cap L B _ HR.out HN.out HP.out hB hm).mono ?_; rintro e w1 ⟨rfl, hb1⟩
  go_wp2_with fail
  go_ret
  exact ⟨rfl, hb1⟩
end Go.Proofs.YtlfahmdndlmhpaaGreatDoor
namespace Go.Proofs.YtlfahmdndlmhpaaGreatDoor
open Go.RowKit Go.Shelf

def PiecePost (C : List Ent) (w : World) (e : Ending) (w' : World) : Prop := ∃ v, e = .returned (.tuple #[v, .int .i64 0]) ∧ w'.ownsRow w.heap.size 43 4 v C.length (ecells C) ∧ Below w.heap.size w w'
set_option maxRecDepth 100000 in
set_option maxHeartbeats 4000000 in
theorem piece_any (i : Int) (o n : Nat) (s : ByteArray) (C : List Ent) (hC : En.fine C) (hf : En.fits C) (hl : 0 < C.length ∧ C.length ≤ 60) (hp : ∀ e ∈ C, e.2.2.2 ≠ 0) (hi : (C.getD 0 Dr.z).1 = i) (hsub : s.extract o (o + n) = strOfNums (Dr.enc C)) (hle : o + n ≤ s.size) (hsz : s.size ≤ 60000) (w : World) :
    Calls Tryz.prog 63 #[.agg #[.int .u64 i, .int .u64 (o : Int), .int .u32 (n : Int), .int .u32 0], .string s] w (PiecePost C w) := by
  have HCF := Lib.hid (And.intro hC hf)
  have HP := Lib.hid hp
  have HI := Lib.hid hi
  have HSUB := Lib.hid hsub
  obtain ⟨hl0, hl1⟩ := hl
  have hle2 : (o : Int) + (n : Int) ≤ (s.size : Int) := by omega
  have e1 : IntKind.u64.wrap ((o : Int) + (n : Int)) = (o : Int) + (n : Int) := u64w (by omega) (by omega)
  have hzz : (s.extract o (o + n)).size ≤ 65536 := by rw [ByteArray.size_extract]; omega
  clear hC hf hp hi hsub
  go_enter Tryz.func63, Tryz.ntmps63
  go_wp2_with fail
  refine (ddec_any (s.extract o (o + n)) C HSUB.out HCF.out.1 HCF.out.2 (by omega) hzz _).mono ?_; rintro e w1 ⟨v, rfl, hO, hb1⟩
  have HX := Lib.hid (blk_one hb1).1
  have hw1 := (blk_one hb1).2.2
  have hz1 := (blk_one hb1).2.1
  have hO1 := ownsRow_base hO (base' := w.heap.size) (by simp)
  obtain ⟨g, c, hv, hg, hgl⟩ := hO1.form hl0
  subst hv
  have HO := Lib.hid hO1
  have HR1 := Lib.hid (Reads.of_own hO1)
  clear hO hO1 hb1 hzz
  go_wp2_with fail
  refine (contf_any _ C.length c C _ _ HR1.out rfl HP.out (Nat.le_refl _) (by omega)).mono ?_; rintro e w2 ⟨rfl, hb2⟩
  have HO2 := Lib.hid (ownsRow_keep HO.out hb2)
  have HX2 := Lib.hid (blk_keep2 hb2 HX.out)
  have hw2 := bthen hw1 hb2
  obtain ⟨a0, a1, a2, a3⟩ := blk_cells4 HX2.out
  obtain ⟨c0, c1, c2, c3⟩ := ((HR1.out.below hb2).ent rfl 0 hl0)
  rw [← Dr.getD_at C 0 hl0, HI.out] at c0
  clear hb2 a1 a2 a3 c1 c2 c3 hw1
  have hne : (C.length : Int) ≠ 0 := by omega
  have hlb : ((C.length : Int) == 0) = false := by simpa using hne
  go_wp2_with fail
  go_quiet (fail)
  all_goals
    go_wp2_with fail
    go_ret2
    exact ⟨_, rfl, HO2.out, by first | exact hw2 | exact Below.drew hw2 | exact bdraws hw2 _⟩
end Go.Proofs.YtlfahmdndlmhpaaGreatDoor
