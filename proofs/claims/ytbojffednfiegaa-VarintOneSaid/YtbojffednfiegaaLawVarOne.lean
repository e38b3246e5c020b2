/- VarintOne: what a number was taken off is just what it is laid as; and the law returns true. -/
import Derived.Test.YtbojffednfiegaaVarOpen
import Derived.Test.YtbojffednfiegaaVarAwake
import Derived.Test.YtbojffednfiegaaVarSize
import Derived.Test.YtbojffednfiegaaVarBackMath
import Derived.Test.YtbojffednfiegaaHeld
namespace Go.Proofs.Ytbojffednfiegaa.varintOne
open Go.ChangeShapes Go.WideShapes Go.ChangeAt Go.RowKit
set_option linter.unusedVariables false

set_option maxRecDepth 100000 in
set_option maxHeartbeats 2000000 in
theorem walk (w : World) (s0 : ByteArray) (h0s : s0.size ≤ 140737488355328) :
    Calls Try.prog 14 #[.string s0] w fun e w' => e = .returned (.bool true) ∧ Below w.heap.size w w' := by
  by_cases hbig : 100 < s0.size
  · go_enter Try.func14, Try.ntmps14
    go_wp2_with fail
    refine (awake02 _).mono ?_; rintro e w1 ⟨rfl, hb⟩
    go_wp2_with fail
    go_ret
    exact ⟨rfl, hb⟩
  · have hsz : (s0.size : Int) ≤ 100 := by omega
    have hgb : Vi.gb s0 0 0 = Vi.wr (Vi.tl s0 0) := by unfold Vi.gb; rw [if_pos rfl, if_pos ⟨by omega, by omega⟩]
    by_cases he : Vi.gb s0 0 0 = 0
    · have hgx : Vi.gx s0 0 0 = Vi.num (Vi.tl s0 0) := by unfold Vi.gx; rw [if_pos he]
      have hga : Vi.ga s0 0 0 = 0 + Vi.wn (Vi.tl s0 0) := by unfold Vi.ga; rw [if_pos he]
      have hfit := Vi.nums_fit (s0.extract 0 s0.size)
      have hnum0 := Vi.num_ge (Vi.tl s0 0)
      have hnum := Vi.num_lt (L := Vi.tl s0 0) hfit
      have hbytes := Vi.num_bytes (L := Vi.tl s0 0) hfit (by rw [← hgb]; exact he)
      have htl := Vi.tl_drop s0 0
      have hwn := Vi.wn_le (Vi.tl s0 0)
      have hlen : (Vi.tl s0 0).length = s0.size := Vi.tl_len s0 0
      have hok := Vi.wr_ok (L := Vi.tl s0 0) (by rw [← hgb]; exact he)
      have hwn1 : 1 ≤ Vi.wn (Vi.tl s0 0) := by unfold Vi.wn; rw [if_pos (by rw [← hgb]; exact he)]; omega
      have htl0 : Vi.tl s0 0 = Vi.nums s0 := by rw [show (0 : Int) = ((0 : Nat) : Int) from rfl, htl, List.drop_zero]
      obtain ⟨X, hX⟩ : ∃ X, X = Vi.gx s0 0 0 := ⟨_, rfl⟩
      obtain ⟨N, hN⟩ : ∃ N, N = Vi.wn (Vi.tl s0 0) := ⟨_, rfl⟩
      rw [← hN] at hwn hwn1 hbytes hga
      rw [hlen] at hwn
      have hstr : strOfNums ([] ++ Vi.bytes X) = s0.extract 0 N := by
        rw [List.nil_append, hX, hgx, hbytes, htl0]
        exact str_take s0 N
      have hsz2 : Vi.sz X = N := by unfold Vi.sz; rw [hX, hgx, hbytes, List.length_take, hlen]; omega
      rw [Int.zero_add] at hga
      rw [← hgx, ← hX] at hnum0 hnum
      have HX := Lib.hid hX.symm
      have HGA := Lib.hid hga
      have HE := Lib.hid he
      have HSTR := Lib.hid hstr
      have hn10 : N ≤ 10 := hwn.2
      have hns : N ≤ s0.size := hwn.1
      clear hgb hgx hga hfit hbytes htl hwn hlen hok htl0 hX hN hstr he
      have HG : Hid (∀ w, Calls Try.prog 49 #[Sc s0 0 0] w (ScPost X s0 N 0 w)) := Lib.hid (fun w => by have h := get_any s0 0 0 (by omega) w; rwa [HX.out, HGA.out, HE.out] at h)
      have HZ : Hid (∀ w, Calls Try.prog 46 #[.int .u64 X] w fun e w' => e = .returned (.int .i64 (N : Int)) ∧ w = w') := Lib.hid (fun w => by have h := size_any X w hnum0 hnum; rwa [hsz2] at h)
      clear hsz2
      go_enter Try.func14, Try.ntmps14
      go_wp2_with fail
      refine (HG.out _).mono ?_
      intro e w1 hp
      obtain ⟨he, hb⟩ := hp
      subst he
      have hw := hb
      clear hb
      go_wp2_with fail
      have HA := Lib.hid (heap_alloc_new w1 (.cells #[.string s0, .int .i64 N, .int .i64 0] 73))
      have hw : Below w.heap.size w (w1.alloc (.cells #[.string s0, .int .i64 N, .int .i64 0] 73)) := hw.alloc hw.size _
      obtain ⟨⟨_, p1, _⟩, _⟩ := blk_cells3 HA.out
      have hN0 : (0 : Int) ≤ (N : Int) := by omega
      have hN1 : (N : Int) ≤ (s0.size : Int) := by omega
      refine wp_region_held_drew (S := (fun w' => w'.cell? ⟨w1.heap.size, 1, none⟩ = some (.int .i64 N))) (by kernel_rfl) (by (try dsimp only); exact p1) (fun hHeld => ?_)
      simp only [List.size_toArray, List.length_cons, List.length_nil, Nat.zero_add, Nat.reduceAdd]
      refine held_take (i := 0) (v := ?_) rfl (by kernel_rfl) (by kernel_rfl) (by kernel_rfl) (fun _ _ _ h => h) (by rfl) ?_ (by assumption) ?_
      rotate_left
      · intro w hSw
        (try dsimp only at hSw)
        go_simp
        try with_reducible rfl
      try simp only [Act.put, List.setIfInBounds_toArray, List.set_cons_zero, List.set_cons_succ]
      refine held_take (i := 3) (v := ?_) rfl (by kernel_rfl) (by kernel_rfl) (by kernel_rfl) (fun _ _ _ h => h) (by rfl) ?_ (by assumption) ?_
      rotate_left
      · intro w hSw
        (try dsimp only at hSw)
        go_simp
        try with_reducible rfl
      try simp only [Act.put, List.setIfInBounds_toArray, List.set_cons_zero, List.set_cons_succ]
      refine held_take (i := 4) (v := ?_) rfl (by kernel_rfl) (by kernel_rfl) (by kernel_rfl) (fun _ _ _ h => h) (by rfl) ?_ (by assumption) ?_
      rotate_left
      · intro w hSw
        (try dsimp only at hSw)
        go_simp
        try with_reducible rfl
      try simp only [Act.put, List.setIfInBounds_toArray, List.set_cons_zero, List.set_cons_succ]
      refine held_take (i := 5) (v := ?_) rfl (by kernel_rfl) (by kernel_rfl) (by kernel_rfl) (fun _ _ _ h => h) (by rfl) ?_ (by assumption) ?_
      rotate_left
      · intro w hSw
        (try dsimp only at hSw)
        go_simp
        try with_reducible rfl
      try simp only [Act.put, List.setIfInBounds_toArray, List.set_cons_zero, List.set_cons_succ]
      refine held_take (i := 6) (v := ?_) rfl (by kernel_rfl) (by kernel_rfl) (by kernel_rfl) (fun _ _ _ h => h) (by rfl) ?_ (by assumption) ?_
      rotate_left
      · intro w hSw
        (try dsimp only at hSw)
        go_simp
        try with_reducible rfl
      try simp only [Act.put, List.setIfInBounds_toArray, List.set_cons_zero, List.set_cons_succ]
      refine held_call (i := 1) (by kernel_rfl) rfl (fun K hK => ?_)
      go_simp
      refine (put_any none 0 0 [] X 0 _ Reads.none_ rfl (Nat.zero_le _) (by omega) hnum0 hnum).mono ?_; intro e w2 hp; obtain ⟨v, he, hR, hb⟩ := hp; subst he; obtain ⟨Ab, kb, hv, _⟩ := hR.slice; rw [hv] at hR; have hstr := hR.str; rw [HSTR.out] at hstr; simp only [List.nil_append] at hstr; subst hv; have hw := bthen2 hb (by first | exact hw | exact Below.drew hw | exact bdraws hw _); have HA := Lib.hid (blk_keep2 hb HA.out); obtain ⟨⟨_, p1, _⟩, _⟩ := blk_cells3 HA.out; clear hb hR
      refine hK.out _ _ (by (try dsimp only); exact p1) (fun hHeld => ?_)
      clear hK K
      try simp only [Act.put, List.setIfInBounds_toArray, List.set_cons_zero, List.set_cons_succ]
      refine held_call (i := 2) (by kernel_rfl) rfl (fun K hK => ?_)
      go_simp
      refine hK.out _ _ (by (try dsimp only); exact p1) (fun hHeld => ?_)
      clear hK K
      try simp only [Act.put, List.setIfInBounds_toArray, List.set_cons_zero, List.set_cons_succ]
      refine held_take (i := 7) (v := ?_) rfl (by kernel_rfl) (by kernel_rfl) (by kernel_rfl) (fun _ _ _ h => h) (by rfl) ?_ (by assumption) ?_
      rotate_left
      · intro w hSw
        (try dsimp only at hSw)
        go_simp
        try with_reducible rfl
      try simp only [Act.put, List.setIfInBounds_toArray, List.set_cons_zero, List.set_cons_succ]
      refine held_take (i := 8) (v := ?_) rfl (by kernel_rfl) (by kernel_rfl) (by kernel_rfl) (fun _ _ _ h => h) (by rfl) ?_ (by assumption) ?_
      rotate_left
      · intro w hSw
        (try dsimp only at hSw)
        go_simp
        try with_reducible rfl
      try simp only [Act.put, List.setIfInBounds_toArray, List.set_cons_zero, List.set_cons_succ]
      refine held_take (i := 9) (v := ?_) rfl (by kernel_rfl) (by kernel_rfl) (by kernel_rfl) (fun _ _ _ h => h) (by rfl) ?_ (by assumption) ?_
      rotate_left
      · intro w hSw
        (try dsimp only at hSw)
        go_simp
        try with_reducible rfl
      try simp only [Act.put, List.setIfInBounds_toArray, List.set_cons_zero, List.set_cons_succ]
      refine held_take (i := 11) (v := ?_) rfl (by kernel_rfl) (by kernel_rfl) (by kernel_rfl) (fun _ _ _ h => h) (by rfl) ?_ (by assumption) ?_
      rotate_left
      · intro w hSw
        (try dsimp only at hSw)
        go_simp
        try with_reducible rfl
      try simp only [Act.put, List.setIfInBounds_toArray, List.set_cons_zero, List.set_cons_succ]
      refine held_take (i := 12) (v := ?_) rfl (by kernel_rfl) (by kernel_rfl) (by kernel_rfl) (fun _ _ _ h => h) (by rfl) ?_ (by assumption) ?_
      rotate_left
      · intro w hSw
        (try dsimp only at hSw)
        go_simp
        try with_reducible rfl
      try simp only [Act.put, List.setIfInBounds_toArray, List.set_cons_zero, List.set_cons_succ]
      refine held_call (i := 10) (by kernel_rfl) rfl (fun K hK => ?_)
      go_simp
      refine (HZ.out _).mono ?_; rintro e w' ⟨rfl, rfl⟩
      refine hK.out _ _ (by (try dsimp only); exact p1) (fun hHeld => ?_)
      clear hK K
      try simp only [Act.put, List.setIfInBounds_toArray, List.set_cons_zero, List.set_cons_succ]
      refine held_take (i := 13) (v := ?_) rfl (by kernel_rfl) (by kernel_rfl) (by kernel_rfl) (fun _ _ _ h => h) (by rfl) ?_ (by assumption) ?_
      rotate_left
      · intro w hSw
        (try dsimp only at hSw)
        go_simp
        try with_reducible rfl
      try simp only [Act.put, List.setIfInBounds_toArray, List.set_cons_zero, List.set_cons_succ]
      refine held_take (i := 14) (v := ?_) rfl (by kernel_rfl) (by kernel_rfl) (by kernel_rfl) (fun _ _ _ h => h) (by rfl) ?_ (by assumption) ?_
      rotate_left
      · intro w hSw
        (try dsimp only at hSw)
        go_simp
        try with_reducible rfl
      try simp only [Act.put, List.setIfInBounds_toArray, List.set_cons_zero, List.set_cons_succ]
      refine held_take (i := 15) (v := ?_) rfl (by kernel_rfl) (by kernel_rfl) (by kernel_rfl) (fun _ _ _ h => h) (by rfl) ?_ (by assumption) ?_
      rotate_left
      · intro w hSw
        (try dsimp only at hSw)
        go_simp
        try with_reducible rfl
      try simp only [Act.put, List.setIfInBounds_toArray, List.set_cons_zero, List.set_cons_succ]
      refine held_call (i := 16) (by kernel_rfl) rfl (fun K hK => ?_)
      go_simp
      refine (awake02 _).mono ?_; rintro e w9 ⟨rfl, hb⟩; have hw := bthen2 hb (by first | exact hw | exact Below.drew hw | exact bdraws hw _); have HA := Lib.hid (blk_keep2 hb HA.out); obtain ⟨⟨_, p1, _⟩, _⟩ := blk_cells3 HA.out; clear hb
      refine hK.out _ _ (by (try dsimp only); exact p1) (fun hHeld => ?_)
      clear hK K
      try simp only [Act.put, List.setIfInBounds_toArray, List.set_cons_zero, List.set_cons_succ]
      refine held_take (i := 17) (v := ?_) rfl (by kernel_rfl) (by kernel_rfl) (by kernel_rfl) (fun _ _ _ h => h) (by rfl) ?_ (by assumption) ?_
      rotate_left
      · intro w hSw
        (try dsimp only at hSw)
        go_simp
        try with_reducible rfl
      try simp only [Act.put, List.setIfInBounds_toArray, List.set_cons_zero, List.set_cons_succ]
      refine held_take (i := 18) (v := ?_) rfl (by kernel_rfl) (by kernel_rfl) (by kernel_rfl) (fun _ _ _ h => h) (by rfl) ?_ (by assumption) ?_
      rotate_left
      · intro w hSw
        (try dsimp only at hSw)
        go_simp
        try with_reducible rfl
      try simp only [Act.put, List.setIfInBounds_toArray, List.set_cons_zero, List.set_cons_succ]
      refine wpAnyH_done (by kernel_rfl) ?_ _
      go_wp2_with fail
      go_ret
      exact ⟨rfl, by first | exact hw | exact bdraws hw _⟩
    · have hgx := Vi.g_not (s := s0) (a := 0) (b := 0) rfl he
      have hd : (Vi.gb s0 0 0 != 0) = true := by rw [bne_iff_ne]; exact he
      have h1 := hgx.1
      have h2 := hgx.2
      clear hgx hgb he
      go_enter Try.func14, Try.ntmps14
      go_wp2_with fail
      refine (get_any s0 0 0 (by omega) _).mono ?_
      intro e w1 hp
      obtain ⟨he, hb⟩ := hp
      subst he
      have hw := hb
      clear hb
      go_wp2_with fail
      refine (awake02 _).mono ?_; rintro e w9 ⟨rfl, hb⟩
      have hw := bthen2 (blk_one hb).2.2 hw
      go_wp2_with fail
      go_ret
      exact ⟨rfl, hw⟩

set_option maxRecDepth 100000 in
set_option maxHeartbeats 1000000 in
theorem lifted (os : Os) (started : os.Started) (H : Type) (enc : TypeId × Value → H) :
    ReturnsInHanded {} Try.checked os 14 .any (Rows.varintOneSpec.pre6 enc Try.prog Try.f14 Rows.varintOneRow.domain false) (Rows.varintOneSpec.post enc Try.prog Try.f14 false true false false) := by
  refine returnsInHanded_of_change_sized (C := Try.checked) own_ started (by kernel_rfl) Try.func14
    (ChangeSpec.witness6 (enc := enc) (C := Try.checked) false ⟨#[], #[.string ByteArray.empty], []⟩ 8 (by kernel_rfl) (by kernel_rfl) (by kernel_rfl) (by kernel_rfl)) ?_
  intro W base args ds gs before hval0 hW hcnd hsz0 _
  have hval : ∀ (j : Nat) t v, Try.f14.params[j]? = some t → args[j]? = some v → Value.okWide Try.prog W .any base t v := hval0
  have hW' := hW
  obtain ⟨p, q, hA0, hV, e0, hfz, hnd⟩ := hW
  clear e0 hfz hnd hcnd
  have hA : DataW.TrodAll enc Try.prog W 0 (fun _ => true) true Try.f14.params.toList args.toList ds p := hA0
  have hsz : (DataW.weightsEach Try.prog (Try.f14.params.toList ++ Rows.varintOneSpec.plain.varTypes Try.prog) (ds ++ gs)).all (· ≤ reachBytes) = true := hsz0
  rw [Try.params14] at hA hval hsz
  obtain ⟨v0, vs0, d0, ds0, p0, q0, hargs, rfl, e0, h0, rr0⟩ := trodAll_cons hA
  obtain ⟨rfl, rfl, eN⟩ := trodAll_nil rr0
  obtain rfl : args = #[v0] := by cases args; simp_all
  obtain ⟨s0, rfl, k0, _, h0s0⟩ := Go.ChangeMaps.open_string Try.underlying9 (hval 0 9 v0 rfl rfl) h0
  have h0s := small_string hsz (j := 0) rfl (by rw [k0]; rfl)
  refine (walk W s0 h0s).mono fun e W' ⟨he, hb⟩ => ?_
  subst he
  exact ⟨_, rfl, law_post laid_ (by kernel_rfl) hW' rfl rfl (by kernel_rfl) Try.underlying4 hb⟩

theorem over : Rows.varintOneRow.holds Try.pinned (OpenSpec.ofChange Rows.varintOneSpec) :=
  OpenClaim.holds_of_wide 14 Try.f14 rfl rfl rfl rfl rfl rfl rfl ⟨rfl, rfl, rfl, rfl, rfl⟩ rfl rfl rfl rfl rfl (by kernel_rfl) Try.func14 (by kernel_rfl)
    (of_decide_eq_true (by kernel_rfl)) (by unfold Func.isWrapper; first | (rw [if_pos (by decide +kernel)]; kernel_rfl) | (rw [if_neg (by decide +kernel)]; exact ⟨rfl, rfl⟩))
    (fun os started H enc _ => lifted os started H enc)

theorem proved : Rows.VarintOneSaid := over
end Go.Proofs.Ytbojffednfiegaa.varintOne
