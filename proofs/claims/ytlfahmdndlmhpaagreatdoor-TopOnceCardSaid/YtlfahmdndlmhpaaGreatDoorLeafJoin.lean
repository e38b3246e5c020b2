/- The walk of leaves.Join. -/
import Derived.Test.YtlfahmdndlmhpaaGreatDoorM36
import Derived.Test.YtlfahmdndlmhpaaGreatDoorLayCut
namespace Go.Proofs.YtlfahmdndlmhpaaGreatDoor
open Go.RowKit Go.Shelf

def JoinPost (L : List Ent) (w : World) (e : Ending) (w' : World) : Prop := ∃ v, e = .returned (.tuple #[v, .int .i64 0]) ∧ w'.ownsRow w.heap.size 43 4 v L.length (ecells L) ∧ Below w.heap.size w w'
set_option maxRecDepth 100000 in
set_option maxHeartbeats 4000000 in
theorem join_whole (A : Option Addr) (cap : Nat) (L : List Ent) (s : ByteArray) (B : Nat) (w : World) (hL : En.fine L) (hf : En.fits L) (hl : L.length ≤ 60) (hp : ∀ e ∈ L, e.2.2.2 ≠ 0) (hr : Reads w B 4 A L.length (ecells L)) (hB : B ≤ w.heap.size) :
    Calls Tryz.prog 25 #[.slice A L.length cap, .string s] w (JoinPost L w) := by
  have HR := Lib.hid hr
  have HF := Lib.hid hf
  have HROW := Lib.hid (En.fine_row hL hf (by omega))
  have HP := Lib.hid hp
  clear hr hL hf hp
  obtain ⟨i0, hi, iz0, iz1, iz2⟩ := info_parts ent_info
  go_enter Tryz.func25, Tryz.ntmps25
  go_wp2_with fail
  refine (row_any A L.length cap L B _ HR.out rfl HF.out hB (by omega)).mono ?_; rintro e w1 ⟨he, hb1⟩
  rw [HROW.out] at he
  subst he
  have HW1 := Lib.hid hb1
  have HR1 := Lib.hid (HR.out.below (hb1.mono hB))
  have hz1 := hb1.size
  clear hb1
  go_wp2_with fail
  go_loopw [7, 20] (fun cv ci wr => ∃ k : Nat, k ≤ L.length ∧ ci = .int .i64 k ∧ Hid (wr.ownsRow w1.heap.size 43 4 cv k (ecells (L.take k))) ∧ Below w1.heap.size w1 wr) (fun _ ci _ => L.length - (intOf ci).toNat)
  case atStart => exact ⟨0, by omega, rfl, Lib.hid (World.ownsRow_nil _ _ _ _), Below.refl _ _⟩
  case round =>
    obtain ⟨k, hk, rfl, hT, hbl⟩ := hrel
    have hS : w1.heap.size ≤ wr.heap.size := hbl.size
    by_cases hlt : k < L.length
    · obtain ⟨g, off, hA, hgB⟩ := HR1.out.plain (by omega) rfl
      have HR' := HR1.out
      rw [hA] at HR'
      subst hA
      obtain ⟨c0, c1, c2, c3⟩ := ((HR'.more (by omega)).below hbl).ent rfl k hlt
      have hs1 := ecells_snoc L k hlt
      have hne := HP.out _ (List.getElem_mem hlt)
      obtain ⟨⟨i, o, l, r⟩, he⟩ : ∃ e, e = L[k]'hlt := ⟨_, rfl⟩
      rw [← he] at c0 c1 c2 c3 hs1 hne
      have hrf : (r == 0) = false := by simpa using hne
      have H1 := Lib.hid hs1
      have HBL := Lib.hid hbl
      clear HR' he hne hs1 hbl
      go_wp2_with fail
      refine (pointer_any i o l r _).mono ?_; rintro e w2 ⟨rfl, hb2⟩
      rw [hrf]
      have hX := (blk_one hb2).1
      obtain ⟨a0, a1, a2, a3⟩ := blk_cells4 hX
      have hb3 := (blk_one hb2).2.2
      have hT2 := ownsRow_keep hT.out hb3
      have hw2 := HBL.out.trans (hb3.mono hS)
      have hS2 := hw2.size
      have hlt2 := hT2.lt
      have HT2 := Lib.hid hT2
      clear hb2 hb3 hT2 hX c0 c1 c2 c3
      go_wp2_with (at_builtin; go_must (refine wpList_append_own _ rfl (.tmp 27) (.tmp 29) _ rfl w1.heap.size 43 i0 _ 4 24 Tryz.underlying35 hi iz0 iz1 iz2 rfl (by omega) _ k (ecells (L.take k)) rfl (HT2.out.alloc _) ⟨w2.heap.size, 0, none⟩ 1 1 [.int .u64 i, .int .u64 o, .int .u32 l, .int .u32 r] rfl (by simp; done) ?c1 ?c2 ?c3 ?c4 ?c5 ?_))
      case c1 => exact blk_news4 (heap_alloc_new w2 _)
      case c2 => intro u hu; simp at hu; rcases hu with rfl | rfl | rfl | rfl <;> rfl
      case c3 => simp only [maxLen]; omega
      case c4 => omega
      case c5 => first | omega | (simp; omega)
      intro v' w3 hown3 hgrow3 _
      have hb3 : Below w1.heap.size w1 w3 := ((hw2.alloc hS2 _).grown hgrow3 (by simp; omega) (fun g hg => (hlt2 g hg).1))
      have hT3 : Hid (w3.ownsRow w1.heap.size 43 4 v' (k + 1) (ecells (L.take (k + 1)))) := Lib.hid (by rw [H1.out]; exact hown3)
      clear hown3 hgrow3 hlt2
      go_wp2_with fail
      exact ⟨⟨k + 1, by omega, by go_num, hT3, hb3⟩, by simp [intOf]; omega⟩
    · have hkn : k = L.length := by omega
      subst hkn
      have HT : Hid (wr.ownsRow w1.heap.size 43 4 u7 L.length (ecells L)) := Lib.hid (by have h := hT.out; rwa [List.take_length] at h)
      obtain ⟨A', c', rfl, hc'⟩ := own_slice HT.out
      have HR2 := Lib.hid (Reads.of_own HT.out)
      clear hT
      go_wp2_with fail
      refine (row_any A' L.length c' L _ _ HR2.out rfl HF.out (Nat.le_refl _) (by omega)).mono ?_; rintro e w3 ⟨he, hb3⟩
      rw [HROW.out] at he
      subst he
      have HT3 := Lib.hid (ownsRow_keep HT.out hb3)
      have hw3 := bthen (HW1.out.trans (hbl.mono hz1)) hb3
      clear hb3
      go_wp2_with fail
      go_ret2
      exact ⟨_, rfl, ownsRow_base HT3.out hz1, hw3⟩
set_option maxRecDepth 100000 in
set_option maxHeartbeats 4000000 in
theorem join_parts (A : Option Addr) (cap K c : Nat) (L : List Ent) (s : ByteArray) (B : Nat) (w : World) (hL : En.fine L) (hf : En.fits L) (hl : L.length ≤ 60) (hp : ∀ e ∈ L, e.2.2.2 ≠ 0) (hK : 0 < K) (hc : c = Lv.cnt L.length K) (hs : s = strOfNums (Lv.text L K c)) (hr : Reads w B 4 A c (ecells (Lv.root L K c))) (hB : B ≤ w.heap.size) :
    Calls Tryz.prog 25 #[.slice A c cap, .string s] w (JoinPost L w) := by
  have hcn : c ≤ L.length := by rw [hc]; exact Lv.cnt_le hK
  have HR := Lib.hid hr
  have HF := Lib.hid (And.intro hL hf)
  have HROW := Lib.hid (En.fine_row hL hf (by omega))
  have HRR := Lib.hid (Lv.root_row hL hf hl hK (Nat.le_of_eq hc))
  have HRF := Lib.hid (Lv.root_fits hL hf hl hK (Nat.le_of_eq hc))
  have HRL := Lib.hid (Lv.root_len L K c)
  have HP := Lib.hid hp
  have HS := Lib.hid hs
  have HC := Lib.hid hc
  have htx : (Lv.text L K c).length ≤ 3000 := by rw [hc]; exact Lv.text_all hK hl
  have hsz : s.size ≤ 3000 := by rw [hs, strOfNums_size]; exact htx
  clear hr hL hf hp hs hc
  obtain ⟨i0, hi, iz0, iz1, iz2⟩ := info_parts ent_info
  go_enter Tryz.func25, Tryz.ntmps25
  go_wp2_with fail
  refine (row_any A c cap (Lv.root L K c) B _ HR.out HRL.out.symm HRF.out hB (by omega)).mono ?_; rintro e w1 ⟨he, hb1⟩
  rw [HRR.out] at he
  subst he
  have HW1 := Lib.hid hb1
  have HR1 := Lib.hid (HR.out.below (hb1.mono hB))
  have hz1 := hb1.size
  clear hb1
  go_wp2_with fail
  go_loopw [7, 20] (fun cv ci wr => ∃ k : Nat, k ≤ c ∧ ci = .int .i64 k ∧ Hid (wr.ownsRow w1.heap.size 43 4 cv (L.take (k * K)).length (ecells (L.take (k * K)))) ∧ Below w1.heap.size w1 wr) (fun _ ci _ => c - (intOf ci).toNat)
  case atStart => exact ⟨0, by omega, rfl, Lib.hid (by rw [Nat.zero_mul]; exact World.ownsRow_nil _ _ _ _), Below.refl _ _⟩
  case round =>
    obtain ⟨k, hk, rfl, hT, hbl⟩ := hrel
    have hS : w1.heap.size ≤ wr.heap.size := hbl.size
    obtain ⟨m, hm⟩ : ∃ m, m = (L.take (k * K)).length := ⟨_, rfl⟩
    have hml : m ≤ 60 := by rw [hm, List.length_take]; omega
    rw [← hm] at hT
    have HM := Lib.hid hm
    clear hm
    by_cases hlt : k < c
    · obtain ⟨g, off, hA, hgB⟩ := HR1.out.plain (by omega) HRL.out.symm
      have HR' := HR1.out
      rw [hA] at HR'
      subst hA
      have hrl : k < (Lv.root L K c).length := by rw [HRL.out]; exact hlt
      obtain ⟨c0, c1, c2, c3⟩ := ((HR'.more (by omega)).below hbl).ent HRL.out.symm k hrl
      rw [Lv.root_at] at c0 c1 c2 c3
      have hjk : k * K < L.length := (Lv.cnt_iff hK).1 (by rw [← HC.out]; exact hlt)
      have htat := Lv.text_at L K c k hlt
      have hpc := Lv.chunk_pos hK hjk
      have hcl := Lv.chunk_le L K k
      have hmem : ∀ e ∈ Lv.chunk L K k, e.2.2.2 ≠ 0 := fun e he => HP.out e (Lv.chunk_mem he)
      have hlen : (L.take ((k + 1) * K)).length = m + (Lv.chunk L K k).length := by rw [← Lv.take_next, List.length_append, HM.out]
      have htk := Lv.take_one L K k
      obtain ⟨C, hC⟩ : ∃ C, C = Lv.chunk L K k := ⟨_, rfl⟩
      have HCF := Lib.hid (And.intro (Lv.chunk_fine HF.out.1 K k) (Lv.chunk_fits HF.out.2 K k))
      obtain ⟨p, hpp⟩ : ∃ p, p = (Lv.text L K k).length := ⟨_, rfl⟩
      obtain ⟨q, hq⟩ : ∃ q, q = (Dr.enc (Lv.chunk L K k)).length := ⟨_, rfl⟩
      obtain ⟨f, hff⟩ : ∃ f, f = ((Lv.chunk L K k).getD 0 Dr.z).1 := ⟨_, rfl⟩
      unfold Lv.ptr at c0 c1 c2 c3
      rw [← hpp, ← hq] at htat
      have hsub : s.extract p (p + q) = strOfNums (Dr.enc C) := by
        refine nums_inj ?_
        rw [nums_cut, HS.out, nums_str (Lv.text_fit HF.out.1 HF.out.2 hl K c), htat.1, hC, nums_str (Dr.enc_fit HCF.out.1 HCF.out.2 (by omega))]
      have hpq : p + q ≤ s.size := by rw [HS.out, strOfNums_size]; exact htat.2
      dsimp only at c0 c1 c2 c3
      rw [← hff] at c0
      rw [← hpp] at c1
      rw [← hq] at c2
      rw [← hC] at HCF hpc hcl hmem hlen htk hff
      have HM2 := Lib.hid hmem
      have HLEN := Lib.hid hlen
      have HTK := Lib.hid htk
      have HSUB := Lib.hid hsub
      have HFF := Lib.hid hff
      have HBL := Lib.hid hbl
      have e1 : ((0 : Int) == 0) = true := rfl
      clear HR' hpp hq hff hmem hlen htk hsub htat hC hbl hrl
      go_wp2_with fail
      refine (pointer_any f p q 0 _).mono ?_; rintro e w2 ⟨rfl, hb2⟩
      rw [e1]
      have HX := Lib.hid (blk_one hb2).1
      obtain ⟨a0, a1, a2, a3⟩ := blk_cells4 HX.out
      have hb3 := (blk_one hb2).2.2
      have HT2 := Lib.hid (ownsRow_keep hT.out hb3)
      have hw2 := HBL.out.trans (hb3.mono hS)
      have hS2 := hw2.size
      clear hb2 hb3 c0 c1 c2 c3 e1
      go_wp2_with fail
      refine (piece_any f p q s C HCF.out.1 HCF.out.2 ⟨hpc, by omega⟩ HM2.out HFF.out.symm HSUB.out hpq (by omega) _).mono ?_; rintro e w3 ⟨v, rfl, hO, hb3⟩
      obtain ⟨A', c', rfl, hc'⟩ := own_slice hO
      have HR3 := Lib.hid (Reads.of_own hO)
      have HT3 := Lib.hid (ownsRow_keep HT2.out hb3)
      have hw3 := hw2.trans (hb3.mono hS2)
      have hS3 := hw3.size
      have hlt3 := HT3.out.lt
      clear hO hb3 a0 a1 a2 a3
      go_wp2_with (at_builtin; go_must (refine wpList_append_any _ rfl (.tmp 40) (.tmp 41) _ rfl w1.heap.size 43 i0 _ 4 24 Tryz.underlying35 hi iz0 iz1 iz2 rfl (by omega) _ m (ecells (L.take (k * K))) rfl HT3.out _ A' C.length c' (ecells C) rfl HR3.out (ecells_one C) ?c1 ?c2 ?c3 ?_))
      case c1 => simp only [maxLen]; omega
      case c2 => omega
      case c3 => exact hS3
      intro v4 w4 hown4 hgr4 _
      have hb4 : Below w1.heap.size w1 w4 := hw3.grown hgr4 hS3 (fun g hg => (hlt3 g hg).1)
      have hT4 : Hid (w4.ownsRow w1.heap.size 43 4 v4 (L.take ((k + 1) * K)).length (ecells (L.take ((k + 1) * K)))) := Lib.hid (by rw [HLEN.out, ← HTK.out]; exact hown4)
      clear hown4 hgr4 hlt3
      go_wp2_with fail
      exact ⟨⟨k + 1, by omega, by go_num, hT4, hb4⟩, by simp [intOf]; omega⟩
    · have hkn : k = c := by omega
      subst hkn
      have HT : Hid (wr.ownsRow w1.heap.size 43 4 u7 L.length (ecells L)) := Lib.hid (by
        have h := hT.out
        rw [HM.out] at h
        rw [show L.take (k * K) = L by rw [HC.out]; exact Lv.take_all L K hK] at h
        exact h)
      obtain ⟨A', c', rfl, hc'⟩ := own_slice HT.out
      have HR2 := Lib.hid (Reads.of_own HT.out)
      clear hT
      go_wp2_with fail
      refine (row_any A' L.length c' L _ _ HR2.out rfl HF.out.2 (Nat.le_refl _) (by omega)).mono ?_; rintro e w3 ⟨he, hb3⟩
      rw [HROW.out] at he
      subst he
      have HT3 := Lib.hid (ownsRow_keep HT.out hb3)
      have hw3 := bthen (HW1.out.trans (hbl.mono hz1)) hb3
      clear hb3
      go_wp2_with fail
      go_ret2
      exact ⟨_, rfl, ownsRow_base HT3.out hz1, hw3⟩
theorem join_any (A : Option Addr) (cap : Nat) (R L : List Ent) (T : List Int) (b : Nat) (s : ByteArray) (B : Nat) (w : World) (hcut : Lv.Cut L b R T) (hL : En.fine L) (hf : En.fits L) (hl : L.length ≤ 60) (hp : ∀ e ∈ L, e.2.2.2 ≠ 0) (hs : s = strOfNums T) (hr : Reads w B 4 A R.length (ecells R)) (hB : B ≤ w.heap.size) :
    Calls Tryz.prog 25 #[.slice A R.length cap, .string s] w (JoinPost L w) := by
  cases hcut with
  | whole _ => exact join_whole A cap R s B w hL hf hl hp hr hB
  | parts k hk _ =>
    rw [Lv.root_len] at hr ⊢
    exact join_parts A cap k _ L s B w hL hf hl hp hk rfl hs hr hB
end Go.Proofs.YtlfahmdndlmhpaaGreatDoor
