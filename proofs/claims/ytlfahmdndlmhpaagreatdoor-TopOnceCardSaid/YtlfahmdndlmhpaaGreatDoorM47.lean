/- The walk of leaves.Split. The walk of leaves.Split where all fits into the root; what Split answers, by a property. The walk of press.head. -/
import Derived.Test.YtlfahmdndlmhpaaGreatDoorM46
import Derived.Test.YtlfahmdndlmhpaaGreatDoorLayGlue
import Derived.Test.YtlfahmdndlmhpaaGreatDoorM10
import Derived.Test.YtlfahmdndlmhpaaGreatDoorM18
import Derived.Lib.AppendStr
import Derived.Deep.Cut
import Derived.Test.YtlfahmdndlmhpaaGreatDoorM45
import Derived.Test.YtlfahmdndlmhpaaGreatDoorM32
import Derived.Laws.Tables
import Derived.Deep.WholeRow
import Derived.Laws.CopyOwn
namespace Go.Proofs.YtlfahmdndlmhpaaGreatDoor
open Go.RowKit Go.Shelf

theorem strCells_nums (s : ByteArray) : Lib.strCells s = (Vi.nums s).map (Value.int .u8) := by
  unfold Lib.strCells Vi.nums
  rw [List.map_map]
  rfl
def SplitPost (L : List Ent) (b : Int) (w : World) (e : Ending) (w' : World) : Prop := ∃ R T v sz, e = .returned (.tuple #[v, .string (strOfNums T), .int .i64 sz, .int .i64 0]) ∧ Lv.Cut L b.toNat R T ∧ w'.ownsRow w.heap.size 43 4 v R.length (ecells R) ∧ Below w.heap.size w w'
set_option maxRecDepth 100000 in
set_option maxHeartbeats 4000000 in
theorem split_any (A : Option Addr) (cap : Nat) (L : List Ent) (B : Nat) (b : Int) (w : World) (hL : En.fine L) (hf : En.fits L) (hl : L.length ≤ 60) (hp : ∀ e ∈ L, e.2.2.2 ≠ 0) (hb : 50 ≤ b ∧ b ≤ 16257) (hcap : L.length ≤ cap) (hr : Reads w B 4 A L.length (ecells L)) (hB : B ≤ w.heap.size) :
    Calls Tryz.prog 19 #[.slice A L.length cap, .int .i64 b] w (SplitPost L b w) := by
  have HR := Lib.hid hr
  have HLF := Lib.hid (And.intro hL hf)
  have HROW := Lib.hid (En.fine_row hL hf (by omega))
  have HP := Lib.hid hp
  obtain ⟨hb1, hb2⟩ := hb
  have d1 : decide (b < 1) = false := decide_eq_false (by omega)
  have d2 : decide (b > 16257) = false := decide_eq_false (by omega)
  clear hr hL hf hp
  by_cases hq : ((Dr.enc L).length : Int) ≤ b
  · go_enter Tryz.func19, Tryz.ntmps19
    go_wp2_with fail
    go_step3
    go_wp2_with fail
    refine (row_any A L.length cap L B _ HR.out rfl HLF.out.2 hB (by omega)).mono ?_; rintro e w1 ⟨he, hb1⟩
    rw [HROW.out] at he
    subst he
    have HR1 := Lib.hid (HR.out.below (hb1.mono hB))
    have hz1 := hb1.size
    go_wp2_with fail
    refine (contf_any A L.length cap L B _ HR1.out rfl HP.out (by omega) (by omega)).mono ?_; rintro e w2 ⟨rfl, hb2⟩
    have HR2 := Lib.hid (HR1.out.below (hb2.mono (by omega)))
    have hw2 := bthen hb1 hb2
    have hz2 := hw2.size
    clear hb2
    go_wp2_with fail
    refine (dsize_any A cap L B _ HLF.out.1 HLF.out.2 (by omega) HR2.out (by omega)).mono ?_; rintro e w3 ⟨rfl, hb3⟩
    have HR3 := Lib.hid (HR2.out.below (hb3.mono (by omega)))
    have hw3 := bthen hw2 hb3
    have hz3 := hw3.size
    clear hb3
    go_wp2_with fail
    refine (entclone_any A L.length cap L B _ HR3.out rfl (by omega) (by omega)).mono ?_; rintro e w4 ⟨v, rfl, hO, hb4⟩
    have hw4 := bthen hw3 hb4
    clear hb4
    go_wp2_with fail
    try rw [Exit.noGoto_ret]
    exact bodyPost_ret (v := .tuple #[v, .string (strOfNums []), .int .i64 0, .int .i64 0]) (by simp [results, Tryz.results19, go_sem]; rfl) rfl ⟨L, [], v, 0, rfl, .whole (by omega), ownsRow_base hO (by omega), hw4⟩
  · go_enter Tryz.func19, Tryz.ntmps19
    go_wp2_with fail
    go_step3
    go_wp2_with fail
    refine (row_any A L.length cap L B _ HR.out rfl HLF.out.2 hB (by omega)).mono ?_; rintro e w1 ⟨he, hb1⟩
    rw [HROW.out] at he
    subst he
    have HR1 := Lib.hid (HR.out.below (hb1.mono hB))
    have hz1 := hb1.size
    go_wp2_with fail
    refine (contf_any A L.length cap L B _ HR1.out rfl HP.out (by omega) (by omega)).mono ?_; rintro e w2 ⟨rfl, hb2⟩
    have HR2 := Lib.hid (HR1.out.below (hb2.mono (by omega)))
    have hw2 := bthen hb1 hb2
    have hz2 := hw2.size
    clear hb2
    go_wp2_with fail
    refine (dsize_any A cap L B _ HLF.out.1 HLF.out.2 (by omega) HR2.out (by omega)).mono ?_; rintro e w3 ⟨rfl, hb3⟩
    have HR3 := Lib.hid (HR2.out.below (hb3.mono (by omega)))
    have hw3 := bthen hw2 hb3
    have hz3 := hw3.size
    clear hb3
    have HW3 := Lib.hid hw3
    clear hw3 hw2 HR2 HR1 hb1
    go_wp2_with fail
    go_step3
    go_wp2_with fail
    go_loopw [9] (fun cs wr => ∃ t : Nat, t ≤ 6 ∧ cs = .int .i64 ((2 ^ t : Nat) : Int) ∧ Below w.heap.size w wr) (fun cs _ => (128 - intOf cs).toNat)
    case atStart => exact ⟨0, by omega, rfl, HW3.out⟩
    case round =>
      obtain ⟨t, ht, rfl, hbl⟩ := hrel
      obtain ⟨k, hk⟩ : ∃ k, k = 2 ^ t := ⟨_, rfl⟩
      have hk1 : 0 < k ∧ k ≤ 64 ∧ (t = 6 → k = 64) := by
        have h7 : t = 0 ∨ t = 1 ∨ t = 2 ∨ t = 3 ∨ t = 4 ∨ t = 5 ∨ t = 6 := by omega
        rcases h7 with rfl | rfl | rfl | rfl | rfl | rfl | rfl <;> (subst hk; decide)
      have HK := Lib.hid hk
      rw [← hk]
      clear hk
      obtain ⟨hk0, hk64, hk6⟩ := hk1
      have hcl := Lv.cnt_le (n := L.length) hk0
      have HBL := Lib.hid hbl
      have HR4 := Lib.hid (HR.out.below (hbl.mono hB))
      have hz4 := hbl.size
      clear hbl
      go_wp2_with fail
      refine (leafcut_any A cap L B k wr hk0 (by omega) (by omega) hcap HR4.out (by omega)).mono ?_; rintro e w1 ⟨v, vs, rfl, hO, hC, hb1⟩
      obtain ⟨Av, cv, rfl, hcv⟩ := own_slice hO
      have HO := Lib.hid hO
      have HC := Lib.hid hC
      have HW1 := Lib.hid (bthen HBL.out hb1)
      clear hO hC hb1
      obtain ⟨c, hc⟩ : ∃ c, c = Lv.cnt L.length k := ⟨_, rfl⟩
      rw [← hc] at HO hcl hcv ⊢
      have HCN := Lib.hid hc
      clear hc
      go_wp2_with fail
      go_loopw [10, 11, 43] (fun cr ct cj wr => ∃ j : Nat, j ≤ c ∧ cj = .int .i64 j ∧ Hid (wr.ownsRow w1.heap.size 43 4 cr j (ecells (Lv.root L k j))) ∧ Hid (Row8 wr w1.heap.size ct (Lv.text L k j)) ∧ Below w1.heap.size w1 wr) (fun _ _ cj _ => c - (intOf cj).toNat)
      case atStart => exact ⟨0, by omega, rfl, Lib.hid (World.ownsRow_nil _ _ _ _), Lib.hid (World.ownsRow_nil _ _ _ _), Below.refl _ _⟩
      case round =>
        obtain ⟨j, hj, rfl, HRT, HTX, hbj⟩ := hrel
        by_cases hlt : j < c
        · have hjk : j * k < L.length := (Lv.cnt_iff hk0).1 (by rw [← HCN.out]; exact hlt)
          obtain ⟨gv, capv, hAv, hgv, hgl⟩ := HO.out.form (by omega)
          have hAv' : Av = some ⟨gv, 0, none⟩ := by injection hAv
          subst hAv'
          have hvl : vs.length = c := by have := HO.out.1; omega
          obtain ⟨x, hx⟩ : ∃ x, vs[j]? = some x := ⟨_, List.getElem?_eq_getElem (by omega)⟩
          have hox := HC.out j x hx
          obtain ⟨Ax, cx, rfl, hcx⟩ := own_slice hox
          have c0 := (hbj.cell (p := ⟨gv, j, none⟩) hgl).trans (by simpa [add_plain] using HO.out.cells (g := gv) rfl j _ hx)
          have HRX := Lib.hid ((Reads.of_own hox).below hbj)
          have hpos := Lv.chunk_pos hk0 hjk
          have HFC := Lib.hid (And.intro (Lv.chunk_fine HLF.out.1 k j) (Lv.chunk_fits HLF.out.2 k j))
          have hcle := Lv.chunk_le L k j
          have hel := Dr.enc_len (Lv.chunk L k j)
          have HBJ := Lib.hid hbj
          have hzj := hbj.size
          obtain ⟨gx, ox, hAx, hgx⟩ := HRX.out.plain hpos rfl
          subst hAx
          obtain ⟨p, hpl⟩ : ∃ p, p = (Lv.text L k j).length := ⟨_, rfl⟩
          have HPL := Lib.hid hpl
          obtain ⟨At, ct, rfl, hct⟩ := own_slice (n := p) (by rw [hpl]; exact HTX.out : wr.ownsRow w1.heap.size 5 1 _ p ((Lv.text L k j).map (Value.int .u8)))
          clear hpl
          clear hox hx hAv hbj
          go_wp2_with fail
          refine (denc_any (some ⟨gx, ox, none⟩) cx (Lv.chunk L k j) w1.heap.size _ HFC.out.1 HFC.out.2 (by omega) (by omega) HRX.out (by omega)).mono ?_; rintro e w5 ⟨rfl, hb5⟩
          have htl := Lv.text_len L hl k j
          have c1 := ((HRX.out.below (hb5.mono hzj)).ent rfl 0 hpos).1
          rw [← Dr.getD_at (Lv.chunk L k j) 0 hpos] at c1
          have HPT := Lib.hid (show Lv.ptr L k j = (((Lv.chunk L k j).getD 0 Dr.z).1, ((Lv.text L k j).length : Int), ((Dr.enc (Lv.chunk L k j)).length : Int), 0) from rfl)
          have HRT5 := Lib.hid (ownsRow_keep HRT.out hb5)
          have HTX5 : Hid (w5.ownsRow w1.heap.size 5 1 (.slice At p ct) (Lv.text L k j).length ((Lv.text L k j).map (Value.int .u8))) := Lib.hid (row_keep HTX.out hb5)
          have HB5 := Lib.hid ((HBJ.out).trans (hb5.mono hzj))
          have hz5 := hb5.size
          have hss := strOfNums_size (Dr.enc (Lv.chunk L k j))
          have HEF := Lib.hid (Dr.enc_fit HFC.out.1 HFC.out.2 (by omega))
          have HTS := Lib.hid (Lv.text_succ L k j)
          have HRS := Lib.hid (Lv.root_succ L k j)
          obtain ⟨f, hf⟩ : ∃ f, f = ((Lv.chunk L k j).getD 0 Dr.z).1 := ⟨_, rfl⟩
          obtain ⟨E, hE⟩ : ∃ E, E = Dr.enc (Lv.chunk L k j) := ⟨_, rfl⟩
          obtain ⟨q, hql⟩ : ∃ q, q = E.length := ⟨_, rfl⟩
          have HQL := Lib.hid hql
          rw [← hf] at c1 HPT
          rw [Nat.zero_mul, Nat.add_zero] at c1
          rw [← hE] at HPT HTS HEF hel hss ⊢
          rw [← HPL.out] at HPT htl HTX5
          rw [← hql] at HPT hel hss
          clear hf hE hql c0 hb5
          obtain ⟨i0, hi, iz0, iz1, iz2⟩ := info_parts ent_info
          have hw1 : IntKind.u64.wrap (p : Int) = p := by rw [IntKind.wrap_u64]; omega
          have hw2 : IntKind.u32.wrap (q : Int) = q := by rw [IntKind.wrap_u32]; omega
          go_wp2_with (at_builtin; go_must (refine wpList_append_own _ rfl (.tmp 54) (.tmp 66) _ rfl w1.heap.size 43 i0 _ 4 24 Tryz.underlying35 hi iz0 iz1 iz2 rfl (by omega) _ j _ rfl (HRT5.out.alloc _) ⟨w5.heap.size, 0, none⟩ 1 1 [.int .u64 f, .int .u64 p, .int .u32 q, .int .u32 0] rfl (by simp; done) ?c1 ?c2 ?c3 ?c4 ?c5 ?_))
          case c1 => exact blk_news4 (heap_alloc_new w5 _)
          case c2 => intro u hu; simp at hu; rcases hu with rfl | rfl | rfl | rfl <;> rfl
          case c3 => simp only [maxLen]; omega
          case c4 => omega
          case c5 => simp; omega
          intro v6 w6 hown6 hgr6 _
          have hO5 := HRT5.out.alloc (.cells #[.int .u64 f, .int .u64 p, .int .u32 q, .int .u32 0] 43)
          have HRT6 : Hid (w6.ownsRow w1.heap.size 43 4 v6 (j + 1) (ecells (Lv.root L k (j + 1)))) := Lib.hid (by rw [HRS.out, HPT.out, ecells_append]; simpa [ecells, En.vals] using hown6)
          have HTX6 := Lib.hid (own_apart (HTX5.out.alloc _) hO5 (by decide) hgr6)
          have HB6 : Hid (Below w1.heap.size w1 w6) := Lib.hid ((HB5.out.alloc (by omega) _).grown hgr6 (by simp; omega) (fun g hg => (hO5.lt g hg).1))
          have hz6 := HB6.out.size
          obtain ⟨j0, hj0, jz0, jz1, jz2⟩ := info_parts u8_info
          clear hown6 hgr6 hO5 hi iz0 iz1 iz2 hw1 hw2 c1
          go_wp2_with (at_builtin; go_must (refine Lib.wpList_append_own_string _ rfl (.tmp 68) (.tmp 69) 111 9 rfl w1.heap.size 5 j0 Tryz.underlying111 Tryz.underlying9 hj0 jz0 jz1 jz2 _ p ((Lv.text L k j).map (Value.int .u8)) rfl HTX6.out (strOfNums E) rfl ?d1 ?d2 ?d3 ?_))
          case d1 => simp only [maxLen]; omega
          case d2 => omega
          case d3 => exact hz6
          intro v7 w7 hown7 hgr7 _
          have hlt6 := HTX6.out.lt
          have HRT7 := Lib.hid (own_apart HRT6.out HTX6.out (by decide) hgr7)
          have HTX7 : Hid (Row8 w7 w1.heap.size v7 (Lv.text L k (j + 1))) := Lib.hid (by
            have e1 : (Lv.text L k (j + 1)).length = p + q := by rw [HTS.out, List.length_append, HPL.out, HQL.out]
            have e2 : (Lv.text L k (j + 1)).map (Value.int .u8) = (Lv.text L k j).map (Value.int .u8) ++ Lib.strCells (strOfNums E) := by rw [HTS.out, List.map_append, strCells_nums, nums_str HEF.out]
            unfold Row8
            rw [e1, e2]
            exact hown7)
          have HB7 : Hid (Below w1.heap.size w1 w7) := Lib.hid (HB6.out.grown hgr7 hz6 (fun g hg => (hlt6 g hg).1))
          clear hown7 hgr7 hlt6 hj0 jz0 jz1 jz2
          go_wp2_with fail
          exact ⟨⟨j + 1, by omega, by go_num, HRT7, HTX7, HB7.out⟩, by simp [intOf]; omega⟩
        · obtain rfl : j = c := by omega
          have hzj := hbj.size
          have HRL := Lib.hid (Lv.root_len L k j)
          have HFR := Lib.hid (And.intro (Lv.root_fine HLF.out.1 HLF.out.2 hl hk0 (Nat.le_of_eq HCN.out)) (Lv.root_fits HLF.out.1 HLF.out.2 hl hk0 (Nat.le_of_eq HCN.out)))
          obtain ⟨Ar, cr, rfl, hcr⟩ := own_slice HRT.out
          have HRR := Lib.hid (Reads.of_own HRT.out)
          have HRT0 := HRT
          obtain ⟨p, hpl⟩ : ∃ p, p = (Lv.text L k j).length := ⟨_, rfl⟩
          obtain ⟨At, ct, rfl, hct⟩ := own_slice (n := p) (by rw [hpl]; exact HTX.out : wr.ownsRow w1.heap.size 5 1 _ p ((Lv.text L k j).map (Value.int .u8)))
          have HPL := Lib.hid hpl
          have HW4 := Lib.hid (HW1.out.trans (hbj.mono (by have := HW1.out.size; omega)))
          clear hpl
          have hds := dsize_any Ar cr (Lv.root L k j) _ wr HFR.out.1 HFR.out.2 (by rw [HRL.out]; omega) (by rw [HRL.out]; exact HRR.out) (Nat.le_refl _)
          rw [HRL.out] at hds
          obtain ⟨z, hz⟩ : ∃ z, z = (Dr.enc (Lv.root L k j)).length := ⟨_, rfl⟩
          rw [← hz] at hds
          have HZ := Lib.hid hz
          have HDS := Lib.hid hds
          clear hz hds
          by_cases hzb : (z : Int) ≤ b
          · go_wp2_with fail
            refine HDS.out.mono ?_; rintro e w5 ⟨rfl, hb5⟩
            have HRT5 := Lib.hid (ownsRow_keep HRT.out hb5)
            have HTX5 : Hid (w5.ownsRow w1.heap.size 5 1 (.slice At p ct) p ((Lv.text L k j).map (Value.int .u8))) := Lib.hid (by
              have h := row_keep HTX.out hb5
              unfold Row8 at h
              rw [← HPL.out] at h
              exact h)
            have hw5 := bthen HW4.out hb5
            have hstr := row8_str (c := ct) (Reads.of_own HTX5.out).drew HPL.out
            clear hb5
            go_wp2_with fail
            refine wp_region_held_drew (S := (fun w' => True)) (by kernel_rfl) (by (try dsimp only); try trivial) (fun hHeld => ?_)
            simp only [List.size_toArray, List.length_cons, List.length_nil, Nat.zero_add, Nat.reduceAdd]
            refine held_take (i := 0) (v := ?_) rfl (by kernel_rfl) (by kernel_rfl) (by kernel_rfl) (fun _ _ _ h => h) (by rfl) ?_ (by assumption) ?_
            rotate_left
            · intro w hSw
              (try dsimp only at hSw)
              go_simp
              try with_reducible rfl
            try simp only [Act.put, List.setIfInBounds_toArray, List.set_cons_zero, List.set_cons_succ]
            refine held_take (i := 1) (v := ?_) rfl (by kernel_rfl) (by kernel_rfl) (by kernel_rfl) (fun _ _ _ h => h) (by rfl) ?_ (by assumption) ?_
            rotate_left
            · intro w hSw
              (try dsimp only at hSw)
              go_simp
              try with_reducible rfl
            try simp only [Act.put, List.setIfInBounds_toArray, List.set_cons_zero, List.set_cons_succ]
            refine held_take (i := 3) (v := ?_) rfl (by kernel_rfl) (by kernel_rfl) (by kernel_rfl) (fun _ _ _ h => h) (by rfl) ?_ (by assumption) ?_
            rotate_left
            · intro w hSw
              (try dsimp only at hSw)
              go_simp
              try with_reducible rfl
            try simp only [Act.put, List.setIfInBounds_toArray, List.set_cons_zero, List.set_cons_succ]
            refine held_take (i := 4) (v := ?_) rfl (by kernel_rfl) (by kernel_rfl) (by kernel_rfl) (fun _ _ _ h => h) (by rfl) ?_ (by assumption) ?_
            rotate_left
            · intro w hSw
              (try dsimp only at hSw)
              go_simp
              try with_reducible rfl
            try simp only [Act.put, List.setIfInBounds_toArray, List.set_cons_zero, List.set_cons_succ]
            refine held_call (i := 2) (by kernel_rfl) rfl (fun K hK => ?_)
            go_simp
            skip
            refine hK.out _ _ (by (try dsimp only); try trivial) (fun hHeld => ?_)
            clear hK K
            try simp only [Act.put, List.setIfInBounds_toArray, List.set_cons_zero, List.set_cons_succ]
            refine held_take (i := 5) (v := ?_) rfl (by kernel_rfl) (by kernel_rfl) (by kernel_rfl) (fun _ _ _ h => h) (by rfl) ?_ (by assumption) ?_
            rotate_left
            · intro w hSw
              (try dsimp only at hSw)
              go_simp
              try with_reducible rfl
            try simp only [Act.put, List.setIfInBounds_toArray, List.set_cons_zero, List.set_cons_succ]
            refine held_take (i := 6) (v := ?_) rfl (by kernel_rfl) (by kernel_rfl) (by kernel_rfl) (fun _ _ _ h => h) (by rfl) ?_ (by assumption) ?_
            rotate_left
            · intro w hSw
              (try dsimp only at hSw)
              go_simp
              try with_reducible rfl
            try simp only [Act.put, List.setIfInBounds_toArray, List.set_cons_zero, List.set_cons_succ]
            refine held_take (i := 7) (v := ?_) rfl (by kernel_rfl) (by kernel_rfl) (by kernel_rfl) (fun _ _ _ h => h) (by rfl) ?_ (by assumption) ?_
            rotate_left
            · intro w hSw
              (try dsimp only at hSw)
              go_simp
              try with_reducible rfl
            try simp only [Act.put, List.setIfInBounds_toArray, List.set_cons_zero, List.set_cons_succ]
            refine wpAnyH_done (by kernel_rfl) ?_ _
            go_wp2_with fail
            try rw [Exit.noGoto_ret]
            exact bodyPost_ret (v := .tuple #[.slice Ar j cr, .string (strOfNums (Lv.text L k j)), .int .i64 k, .int .i64 0]) (by simp [results, Tryz.results19, go_sem]) rfl ⟨Lv.root L k j, Lv.text L k j, _, k, rfl, by
              have h := Lv.Cut.parts (E := L) (b := b.toNat) k hk0 (by rw [← HCN.out, ← HZ.out]; omega)
              rw [← HCN.out] at h
              exact h, by rw [HRL.out]; exact ownsRow_base HRT5.out HW1.out.size, Below.drew hw5⟩
          · go_wp2_with fail
            refine HDS.out.mono ?_; rintro e w5 ⟨rfl, hb5⟩
            have hw5 := bthen HW4.out hb5
            have ht6 : t ≠ 6 := fun h => by
              have h1 := Lv.root_one (L := L) hk0 (by omega)
              rw [← HCN.out, ← HZ.out] at h1
              omega
            have hk2 : k * 2 = 2 ^ (t + 1) := by rw [HK.out, Nat.pow_succ]
            have HK2 := Lib.hid hk2
            clear hb5 hk2
            go_wp2_with fail
            exact ⟨⟨t + 1, by omega, by rw [← HK2.out]; simp, hw5⟩, by simp [intOf]; omega⟩
end Go.Proofs.YtlfahmdndlmhpaaGreatDoor
namespace Go.Proofs.YtlfahmdndlmhpaaGreatDoor
open Go.RowKit Go.Shelf

def SplitQ (Q : List Ent → List Int → Prop) (w : World) (e : Ending) (w' : World) : Prop := ∃ R T v sz, e = .returned (.tuple #[v, .string (strOfNums T), .int .i64 sz, .int .i64 0]) ∧ Q R T ∧ w'.ownsRow w.heap.size 43 4 v R.length (ecells R) ∧ Below w.heap.size w w'
set_option maxRecDepth 100000 in
set_option maxHeartbeats 4000000 in
theorem split_whole (A : Option Addr) (cap : Nat) (L : List Ent) (B : Nat) (b : Int) (w : World) (hL : En.fine L) (hf : En.fits L) (hl : L.length ≤ 60) (hp : ∀ e ∈ L, e.2.2.2 ≠ 0) (hb : 50 ≤ b ∧ b ≤ 16257) (hq : ((Dr.enc L).length : Int) ≤ b) (hr : Reads w B 4 A L.length (ecells L)) (hB : B ≤ w.heap.size) :
    Calls Tryz.prog 19 #[.slice A L.length cap, .int .i64 b] w (SplitQ (fun R T => R = L ∧ T = []) w) := by
  have HR := Lib.hid hr
  have HLF := Lib.hid (And.intro hL hf)
  have HROW := Lib.hid (En.fine_row hL hf (by omega))
  have HP := Lib.hid hp
  obtain ⟨hb1, hb2⟩ := hb
  have d1 : decide (b < 1) = false := decide_eq_false (by omega)
  have d2 : decide (b > 16257) = false := decide_eq_false (by omega)
  clear hr hL hf hp
  go_enter Tryz.func19, Tryz.ntmps19
  go_wp2_with fail
  go_step3
  go_wp2_with fail
  refine (row_any A L.length cap L B _ HR.out rfl HLF.out.2 hB (by omega)).mono ?_; rintro e w1 ⟨he, hb1⟩
  rw [HROW.out] at he
  subst he
  have HR1 := Lib.hid (HR.out.below (hb1.mono hB))
  have hz1 := hb1.size
  go_wp2_with fail
  refine (contf_any A L.length cap L B _ HR1.out rfl HP.out (by omega) (by omega)).mono ?_; rintro e w2 ⟨rfl, hb2⟩
  have HR2 := Lib.hid (HR1.out.below (hb2.mono (by omega)))
  have hw2 := bthen hb1 hb2
  have hz2 := hw2.size
  clear hb2
  go_wp2_with fail
  refine (dsize_any A cap L B _ HLF.out.1 HLF.out.2 (by omega) HR2.out (by omega)).mono ?_; rintro e w3 ⟨rfl, hb3⟩
  have HR3 := Lib.hid (HR2.out.below (hb3.mono (by omega)))
  have hw3 := bthen hw2 hb3
  have hz3 := hw3.size
  clear hb3
  go_wp2_with fail
  refine (entclone_any A L.length cap L B _ HR3.out rfl (by omega) (by omega)).mono ?_; rintro e w4 ⟨v, rfl, hO, hb4⟩
  have hw4 := bthen hw3 hb4
  clear hb4
  go_wp2_with fail
  try rw [Exit.noGoto_ret]
  exact bodyPost_ret (v := .tuple #[v, .string (strOfNums []), .int .i64 0, .int .i64 0]) (by simp [results, Tryz.results19, go_sem]; rfl) rfl ⟨L, [], v, 0, rfl, ⟨rfl, rfl⟩, ownsRow_base hO (by omega), hw4⟩
end Go.Proofs.YtlfahmdndlmhpaaGreatDoor
namespace Go.Proofs.YtlfahmdndlmhpaaGreatDoor
open Go.RowKit Go.Shelf

theorem wpList_into {P : Program} {ops : Array Oper} {Q : Exit → Act → World → Prop} {rest : List Oper} {a : Act} {w : World} (F : World → Prop) (hF : F w) (h : ∀ w, F w → wpList P ops Q rest a w) : wpList P ops Q rest a w := h w hF
theorem set_oth {w : World} {g k i : Nat} {u : Value} {o : Obj} (h : w.heap[k]? = some o) (hn : g ≠ k) : (w.setCell ⟨g, i, none⟩ u).heap[k]? = some o := blk_grown h (gr_set w g i u) (fun j e => by cases e; exact hn)
def HeadPost (a e c : Int) (w : World) (x : Ending) (w' : World) : Prop := ∃ lo hi, x = .returned (.agg #[.int .u64 0, .int .u64 0, .int .u64 0, .int .u64 0, .int .u64 0, .int .u64 0, .int .u64 0, .int .u64 0, .int .u64 a, .int .u64 e, .int .u64 c, .bool true, .int .u8 1, .int .u8 1, .int .u8 0, .int .i64 lo, .int .i64 hi, .int .i64 (-1800000000), .int .i64 (-850511287), .int .i64 1800000000, .int .i64 850511287, .int .i64 lo, .int .i64 0, .int .i64 0]) ∧ 0 ≤ lo ∧ lo ≤ hi ∧ hi ≤ 26 ∧ Below w.heap.size w w'
set_option maxRecDepth 100000 in
set_option maxHeartbeats 4000000 in
theorem head_any (A A' : Option Addr) (n cap m cap' B : Nat) (L : List Itm) (E : List Ent) (w : World) (hr : Reads w B 2 A n (icells L)) (hn : n = L.length) (hs : It.ok L) (hB : B ≤ w.heap.size) (hm : n ≤ 60) (hr' : Reads w B 4 A' m (ecells E)) (hn' : m = E.length) (hf : En.fits E) (hm' : m ≤ 60) :
    Calls Tryz.prog 22 #[.agg #[.slice A n cap], .slice A' m cap', .int .u8 0] w (HeadPost n m (En.con E) w) := by
  have HR := Lib.hid hr
  have HR' := Lib.hid hr'
  have HN := Lib.hid hn
  have hcon : 0 ≤ En.con E ∧ En.con E ≤ 60 := ⟨(En.con_bd E).1, by have := (En.con_bd E).2; omega⟩
  have HN' := Lib.hid hn'
  clear hr hr' hn hn'
  go_enter Tryz.func22, Tryz.ntmps22
  go_wp2_with fail
  refine (len_any A n cap _).mono ?_; rintro e w1 ⟨rfl, hb1⟩
  obtain ⟨hA1, hB1, hz1, hz1', hw1⟩ := blk_two hb1
  have HA1 := Lib.hid hA1
  have HB1 := Lib.hid hB1
  have HR1' := Lib.hid (HR'.out.below (hw1.mono hB))
  have HR1 := Lib.hid (HR.out.below (hw1.mono hB))
  clear hb1 hA1 hB1
  go_wp2_with fail
  refine (con_any A' m cap' E B _ HR1'.out HN'.out hf (by omega) (by omega)).mono ?_; rintro e w2 ⟨rfl, hb2⟩
  have hA2 := blk_keep2 hb2 HA1.out
  have hB2 := blk_keep2 hb2 HB1.out
  have hw2 := bthen hw1 hb2
  have HR2 := Lib.hid (HR1.out.below (hb2.mono (by omega)))
  have hz2 : w.heap.size + 1 < w2.heap.size := blk_lt hB2
  have cw : IntKind.u64.wrap (En.con E) = En.con E := u64w hcon.1 (by omega)
  clear hb2
  go_wp2_with (refine wpList_store_row rfl 65 (.tmp 7) (.tmp 18) rfl w2.heap.size #[.int .u64 0, .int .u64 0, .int .u64 0, .int .u64 0, .int .u64 0, .int .u64 0, .int .u64 0, .int .u64 0, .int .u64 (n : Int), .int .u64 (m : Int), .int .u64 (En.con E), .bool true, .int .u8 1, .int .u8 1, .int .u8 0, .int .i64 0, .int .i64 0, .int .i64 0, .int .i64 0, .int .i64 0, .int .i64 0, .int .i64 0, .int .i64 0, .int .i64 0] rfl rfl _ _ (heap_alloc_new w2 _) (by kernel_rfl) rfl (by kernel_rfl) ?_; rw [World.setRow_alloc_new]; refine wpList_into (fun W => W.heap[w2.heap.size]? = some (.cells #[.int .u64 0, .int .u64 0, .int .u64 0, .int .u64 0, .int .u64 0, .int .u64 0, .int .u64 0, .int .u64 0, .int .u64 (n : Int), .int .u64 (m : Int), .int .u64 (En.con E), .bool true, .int .u8 1, .int .u8 1, .int .u8 0, .int .i64 0, .int .i64 0, .int .i64 0, .int .i64 0, .int .i64 0, .int .i64 0, .int .i64 0, .int .i64 0, .int .i64 0] 65 (0, 0)) ∧ W.heap[w.heap.size]? = some (.cells #[.slice A n cap] 27 (0, 0)) ∧ W.heap[w.heap.size + 1]? = some (.cells #[.int .u64 0, .int .u64 0, .int .u64 0, .int .u64 0, .int .u64 0, .int .u64 0, .int .u64 0, .int .u64 0, .int .u64 0, .int .u64 0, .int .u64 0, .bool false, .int .u8 0, .int .u8 0, .int .u8 0, .int .i64 0, .int .i64 0, .int .i64 0, .int .i64 0, .int .i64 0, .int .i64 0, .int .i64 0, .int .i64 0, .int .i64 0] 65 (0, 0)) ∧ Below w.heap.size w W) ⟨heap_alloc_new w2 _, blk_alloc hA2 _, blk_alloc hB2 _, hw2.alloc hw2.size _⟩ ?_; clear hA2 hB2 hw2 cw; rintro W3 ⟨hH3, hA3, hB3, hw3⟩; have c0 := cell_of_row W3 w.heap.size 0 _ _ _ hA3; have HH3 := Lib.hid hH3; have HB3 := Lib.hid hB3; have HW3 := Lib.hid hw3; clear hH3 hA3 hB3 hw3)
  have hzW := HW3.out.size
  have hzH := blk_lt HH3.out
  refine (zooms_any A n cap L B W3 (HR.out.below (HW3.out.mono hB)) HN.out hs (by omega) (by omega)).mono ?_; rintro e w4 ⟨lo, hi, b, rfl, q0, q1, q2, hb4⟩
  have hH4 := blk_keep2 hb4 HH3.out
  have hB4 := blk_keep2 hb4 HB3.out
  have HW4 := Lib.hid (bthen HW3.out hb4)
  have k15 : w4.cell? ⟨w2.heap.size, 15, none⟩ = some (.int .i64 0) := cell_of_row w4 w2.heap.size 15 _ _ _ hH4
  have k16 : w4.cell? ⟨w2.heap.size, 16, none⟩ = some (.int .i64 0) := cell_of_row w4 w2.heap.size 16 _ _ _ hH4
  have k17 : w4.cell? ⟨w2.heap.size, 17, none⟩ = some (.int .i64 0) := cell_of_row w4 w2.heap.size 17 _ _ _ hH4
  have k18 : w4.cell? ⟨w2.heap.size, 18, none⟩ = some (.int .i64 0) := cell_of_row w4 w2.heap.size 18 _ _ _ hH4
  have k19 : w4.cell? ⟨w2.heap.size, 19, none⟩ = some (.int .i64 0) := cell_of_row w4 w2.heap.size 19 _ _ _ hH4
  have k20 : w4.cell? ⟨w2.heap.size, 20, none⟩ = some (.int .i64 0) := cell_of_row w4 w2.heap.size 20 _ _ _ hH4
  have k21 : w4.cell? ⟨w2.heap.size, 21, none⟩ = some (.int .i64 0) := cell_of_row w4 w2.heap.size 21 _ _ _ hH4
  have kf : ∀ j, w4.frozen? ⟨w2.heap.size, j, none⟩ = false := fun j => by simp [World.frozen?, hH4]
  have HH4 := Lib.hid hH4
  have HB4 := Lib.hid hB4
  clear hH4 hB4 hb4 c0
  go_upto_region 5 with (fail)
  clear k15 k16 k17 k18 k19 k20 k21 kf
  have HF : Hid ((((((((w4.setCell ⟨w2.heap.size, 15, none⟩ (.int .i64 lo)).setCell ⟨w2.heap.size, 16, none⟩ (.int .i64 hi)).setCell ⟨w2.heap.size, 21, none⟩ (.int .i64 lo)).setCell ⟨w2.heap.size, 17, none⟩ (.int .i64 (-1800000000))).setCell ⟨w2.heap.size, 19, none⟩ (.int .i64 1800000000)).setCell ⟨w2.heap.size, 18, none⟩ (.int .i64 (-850511287))).setCell ⟨w2.heap.size, 20, none⟩ (.int .i64 850511287)).heap[w2.heap.size]? = some (.cells #[.int .u64 0, .int .u64 0, .int .u64 0, .int .u64 0, .int .u64 0, .int .u64 0, .int .u64 0, .int .u64 0, .int .u64 (n : Int), .int .u64 (m : Int), .int .u64 (En.con E), .bool true, .int .u8 1, .int .u8 1, .int .u8 0, .int .i64 lo, .int .i64 hi, .int .i64 (-1800000000), .int .i64 (-850511287), .int .i64 1800000000, .int .i64 850511287, .int .i64 lo, .int .i64 0, .int .i64 0] 65 (0, 0))) := Lib.hid ((set_blk (set_blk (set_blk (set_blk (set_blk (set_blk (set_blk HH4.out))))))).trans (by kernel_rfl))
  have hne : w2.heap.size ≠ w.heap.size + 1 := by omega
  have HBB : Hid ((((((((w4.setCell ⟨w2.heap.size, 15, none⟩ (.int .i64 lo)).setCell ⟨w2.heap.size, 16, none⟩ (.int .i64 hi)).setCell ⟨w2.heap.size, 21, none⟩ (.int .i64 lo)).setCell ⟨w2.heap.size, 17, none⟩ (.int .i64 (-1800000000))).setCell ⟨w2.heap.size, 19, none⟩ (.int .i64 1800000000)).setCell ⟨w2.heap.size, 18, none⟩ (.int .i64 (-850511287))).setCell ⟨w2.heap.size, 20, none⟩ (.int .i64 850511287)).heap[w.heap.size + 1]? = some (.cells #[.int .u64 0, .int .u64 0, .int .u64 0, .int .u64 0, .int .u64 0, .int .u64 0, .int .u64 0, .int .u64 0, .int .u64 0, .int .u64 0, .int .u64 0, .bool false, .int .u8 0, .int .u8 0, .int .u8 0, .int .i64 0, .int .i64 0, .int .i64 0, .int .i64 0, .int .i64 0, .int .i64 0, .int .i64 0, .int .i64 0, .int .i64 0] 65 (0, 0))) := Lib.hid (set_oth (set_oth (set_oth (set_oth (set_oth (set_oth (set_oth HB4.out hne) hne) hne) hne) hne) hne) hne)
  have hw4 := HW4.out
  have hz4 := hw4.size
  have hz5 : w.heap.size ≤ w2.heap.size := by omega
  have HWW : Hid (Below w.heap.size w (((((((w4.setCell ⟨w2.heap.size, 15, none⟩ (.int .i64 lo)).setCell ⟨w2.heap.size, 16, none⟩ (.int .i64 hi)).setCell ⟨w2.heap.size, 21, none⟩ (.int .i64 lo)).setCell ⟨w2.heap.size, 17, none⟩ (.int .i64 (-1800000000))).setCell ⟨w2.heap.size, 19, none⟩ (.int .i64 1800000000)).setCell ⟨w2.heap.size, 18, none⟩ (.int .i64 (-850511287))).setCell ⟨w2.heap.size, 20, none⟩ (.int .i64 850511287))) := Lib.hid (by exact (by repeat (first | with_reducible exact Below.refl _ _ | with_reducible assumption | with_reducible refine Below.setCell ?_ (by first | (simp; done) | (simp; omega) | omega) _ | with_reducible refine Below.alloc ?_ (by first | exact Nat.le_refl _ | (simp; done) | (simp; omega) | omega) _ | with_reducible refine Below.drew ?_)))
  clear hw4
  go_step
  refine wpList_load_row rfl 65 (.tmp 7) rfl w2.heap.size rfl _ #[.int .u64 0, .int .u64 0, .int .u64 0, .int .u64 0, .int .u64 0, .int .u64 0, .int .u64 0, .int .u64 0, .int .u64 (n : Int), .int .u64 (m : Int), .int .u64 (En.con E), .bool true, .int .u8 1, .int .u8 1, .int .u8 0, .int .i64 lo, .int .i64 hi, .int .i64 (-1800000000), .int .i64 (-850511287), .int .i64 1800000000, .int .i64 850511287, .int .i64 lo, .int .i64 0, .int .i64 0] _ _ HF.out Tryz.underlying65 rfl (by kernel_rfl) ?_
  refine wpList_store_row rfl 65 (.tmp 6) (.tmp 34) rfl (w.heap.size + 1) #[.int .u64 0, .int .u64 0, .int .u64 0, .int .u64 0, .int .u64 0, .int .u64 0, .int .u64 0, .int .u64 0, .int .u64 (n : Int), .int .u64 (m : Int), .int .u64 (En.con E), .bool true, .int .u8 1, .int .u8 1, .int .u8 0, .int .i64 lo, .int .i64 hi, .int .i64 (-1800000000), .int .i64 (-850511287), .int .i64 1800000000, .int .i64 850511287, .int .i64 lo, .int .i64 0, .int .i64 0] rfl rfl _ _ HBB.out (by kernel_rfl) rfl (by kernel_rfl) ?_
  go_wp2_with fail
  exact bodyPost_ret (v := .agg #[.int .u64 0, .int .u64 0, .int .u64 0, .int .u64 0, .int .u64 0, .int .u64 0, .int .u64 0, .int .u64 0, .int .u64 (n : Int), .int .u64 (m : Int), .int .u64 (En.con E), .bool true, .int .u8 1, .int .u8 1, .int .u8 0, .int .i64 lo, .int .i64 hi, .int .i64 (-1800000000), .int .i64 (-850511287), .int .i64 1800000000, .int .i64 850511287, .int .i64 lo, .int .i64 0, .int .i64 0]) (results_cell_row Tryz.results22 _ _ (w.heap.size + 1) _ _ _ _ rfl (setRow_heap _ _ _ _ _ _ HBB.out) Tryz.underlying65 rfl (by kernel_rfl)) rfl ⟨lo, hi, rfl, q0, q1, q2, below_setRow HWW.out (by omega) _⟩
end Go.Proofs.YtlfahmdndlmhpaaGreatDoor
