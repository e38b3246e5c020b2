/- VarintPuts: the bytes of any number behind any others, how many they are, and those of any numbers, are what the document says; and the law returns true. -/
import Derived.Test.YtppciejcobmikaaVarOpen
import Derived.Test.YtppciejcobmikaaVarAwake
import Derived.Test.YtppciejcobmikaaVarSize
import Derived.Test.YtppciejcobmikaaVarRef
import Derived.Test.YtppciejcobmikaaVarRow
import Derived.Test.YtppciejcobmikaaHeld2
namespace Go.Proofs.Ytppciejcobmikaa.varintPuts
open Go.ChangeShapes Go.WideShapes Go.ChangeAt Go.RowKit
set_option linter.unusedVariables false

set_option maxRecDepth 100000 in
set_option maxHeartbeats 2000000 in
theorem walk (w : World) (A0 : Option Addr) (n0 c0 : Nat) (L0 : List Int) (hr0 : Reads w w.heap.size 1 A0 n0 (L0.map (Value.int .u8))) (hn0 : n0 = L0.length) (hf0 : ∀ x ∈ L0, 0 ≤ x ∧ x < 256) (hm0 : n0 ≤ 140737488355328) (hc0 : n0 ≤ c0) (a1 : Int) (w1 : (Lit.int .u64 a1).wf = true) (A2 : Option Addr) (n2 c2 : Nat) (L2 : List Int) (hr2 : Reads w w.heap.size 1 A2 n2 (L2.map (Value.int .u64))) (hn2 : n2 = L2.length) (hf2 : ∀ x ∈ L2, 0 ≤ x ∧ x < 18446744073709551616) (hm2 : n2 * 8 ≤ 140737488355328) (hc2 : n2 ≤ c2) :
    Calls Try.prog 11 #[.slice A0 n0 c0, .int .u64 a1, .slice A2 n2 c2] w fun e w' => e = .returned (.bool true) ∧ Below w.heap.size w w' := by
  by_cases hbig : 300 < n0
  · go_enter Try.func11, Try.ntmps11
    go_wp2_with fail
    refine (awake02 _).mono ?_; rintro e w1 ⟨rfl, hb⟩
    go_wp2_with fail
    go_ret
    exact ⟨rfl, hb⟩
  · by_cases hbs : 100 < n2
    · go_enter Try.func11, Try.ntmps11
      go_wp2_with fail
      refine (awake02 _).mono ?_; rintro e w1 ⟨rfl, hb⟩
      go_wp2_with fail
      go_ret
      exact ⟨rfl, hb⟩
    · obtain ⟨z0, z1⟩ := bd_u64 w1
      have z1 : a1 < 18446744073709551616 := by omega
      obtain ⟨i0, hi, iz0, iz1, iz2⟩ := info_parts u8_info
      have hbl := Vi.bytes_len a1
      have hst : strOfNums L0 ++ strOfNums (Vi.bytes a1) = strOfNums (L0 ++ Vi.bytes a1) := str_app _ _
      obtain ⟨q0, hq0, hq1⟩ : ∃ q, (strOfNums L0).size = q ∧ q ≤ 300 := ⟨_, rfl, by rw [strOfNums_size]; omega⟩
      obtain ⟨r0, hr0', hr1⟩ : ∃ q, (strOfNums (Vi.bytes a1)).size = q ∧ q ≤ 10 := ⟨_, rfl, by rw [strOfNums_size]; omega⟩
      have hsum : ¬ 9223372036854775807 < q0 + r0 := by omega
      have HR0 := Lib.hid hr0
      have HN0 := Lib.hid hn0
      have HR2 := Lib.hid hr2
      have HN2 := Lib.hid hn2
      have HF2 := Lib.hid hf2
      have HFF : Hid (∀ x ∈ L0 ++ Vi.bytes a1, 0 ≤ x ∧ x < 256) := Lib.hid (fun x hx => (List.mem_append.1 hx).elim (hf0 x) (fun h => Vi.bytes_fits z0 z1 x h))
      clear hr0 hn0 hr2 hn2 hf2 hf0
      go_enter Try.func11, Try.ntmps11
      have HL := Lib.hid (World.ownsRow_lit (base := w.heap.size) (e := 5) (size := 1) w #[] 0 (Nat.le_refl _) (by simp [maxLen]) rfl)
      go_wp2_with (at_builtin; go_must (refine wpList_append_any _ rfl (.tmp 20) (.tmp 21) _ rfl w.heap.size 5 i0 _ 1 1 Try.underlying62 hi iz0 iz1 iz2 rfl (by omega) (.slice (some ⟨w.heap.size, 0, none⟩) 0 0) 0 [] rfl HL.out w.heap.size A0 n0 c0 (L0.map (Value.int .u8)) rfl (HR0.out.alloc (Nat.le_refl _) _) (one8 L0) ?c1 ?c2 ?c3 ?_))
      case c1 => simp only [maxLen]; omega
      intro v3 w3 hown3 hgr3 hat3
      have hw : Below w.heap.size w w3 := ((Below.refl _ _).alloc (Nat.le_refl _) _).grown hgr3 (by simp) (fun k hk => (HL.out.lt k hk).1)
      have HC : Hid (Row8 w3 w.heap.size v3 L0) := Lib.hid (by unfold Row8; rw [← HN0.out]; simpa using hown3)
      clear hown3 hgr3 hat3 HL
      obtain ⟨Ac, kc, hv, _⟩ := HC.out.slice
      rw [hv] at HC
      subst hv
      have HC3 := Lib.hid (Reads.of_own HC.out)
      have hw3 := hw
      go_wp2_with fail
      refine (put_any Ac L0.length kc L0 a1 w3.heap.size _ (Reads.of_own HC.out) rfl (Nat.le_refl _) (by have := HN0.out; omega) z0 z1).mono ?_
      intro e w4 hp
      obtain ⟨v, he, hR, hb⟩ := hp
      subst he
      have hw := bthen2 hb hw
      have HD := hR
      obtain ⟨g, kd, hv, hgB, _, hRun⟩ := row8_run hR (by rw [List.length_append]; omega) HFF.out
      rw [hv] at HD
      subst hv
      obtain ⟨K, hK⟩ : ∃ K, K = (L0 ++ Vi.bytes a1).length := ⟨_, rfl⟩
      have HD := Reads.of_own HD
      rw [← hK] at HD hRun
      rw [← hK]
      have HD := Lib.hid HD
      have HRun := Lib.hid hRun
      have HK := Lib.hid hK
      have hK9 : K ≤ 400 := by have := HN0.out; rw [List.length_append] at hK; omega
      have hw4 := hb
      clear hR hRun hK hb
      go_wp2_with fail
      refine wp_region_held_drew (S := (fun w' => (convert 62 9 (.slice (some ⟨g, 0, none⟩) K kd)).run Try.prog w' = .ok (.string (strOfNums (L0 ++ Vi.bytes a1))) w' ∧ (convert 62 9 (.slice A0 n0 c0)).run Try.prog w' = .ok (.string (strOfNums L0)) w')) (by kernel_rfl) (by (try dsimp only); exact ⟨row8_str (B := w4.heap.size) (by exact HD.out) HK.out, row8_str (B := w.heap.size) (by first | exact HR0.out.below hw | exact HR0.out.below (Below.drew hw)) HN0.out⟩) (fun hHeld => ?_)
      simp only [List.size_toArray, List.length_cons, List.length_nil, Nat.zero_add, Nat.reduceAdd]
      refine held_take (i := 0) (v := ?_) rfl (by kernel_rfl) (by kernel_rfl) (by kernel_rfl) (fun _ _ _ h => h) (by rfl) ?_ (by assumption) ?_
      rotate_left
      · intro w hSw
        (try dsimp only at hSw)
        go_simp
        try with_reducible rfl
      try simp only [Act.put, List.setIfInBounds_toArray, List.set_cons_zero, List.set_cons_succ]
      refine held_take (i := 1) (v := ?_) rfl (by kernel_rfl) (by kernel_rfl) (by kernel_rfl) (fun _ _ _ h => h) (by rfl) ?_ (by assumption) ?_
      rotate_left
      · intro w hSw
        (try dsimp only at hSw)
        go_simp
        try with_reducible rfl
      try simp only [Act.put, List.setIfInBounds_toArray, List.set_cons_zero, List.set_cons_succ]
      refine held_take (i := 2) (v := ?_) rfl (by kernel_rfl) (by kernel_rfl) (by kernel_rfl) (fun _ _ _ h => h) (by rfl) ?_ (by assumption) ?_
      rotate_left
      · intro w hSw
        (try dsimp only at hSw)
        go_simp
        try with_reducible rfl
      try simp only [Act.put, List.setIfInBounds_toArray, List.set_cons_zero, List.set_cons_succ]
      refine held_take (i := 3) (v := ?_) rfl (by kernel_rfl) (by kernel_rfl) (by kernel_rfl) (fun _ _ _ h => h) (by rfl) ?_ (by assumption) ?_
      rotate_left
      · intro w hSw
        (try dsimp only at hSw)
        go_simp
        try with_reducible rfl
      try simp only [Act.put, List.setIfInBounds_toArray, List.set_cons_zero, List.set_cons_succ]
      refine held_take (i := 4) (v := ?_) rfl (by kernel_rfl) (by kernel_rfl) (by kernel_rfl) (fun _ _ _ h => h) (by rfl) ?_ (by assumption) ?_
      rotate_left
      · intro w hSw
        (try dsimp only at hSw)
        go_simp
        try with_reducible rfl
      try simp only [Act.put, List.setIfInBounds_toArray, List.set_cons_zero, List.set_cons_succ]
      refine held_call (i := 5) (by kernel_rfl) rfl (fun K hK => ?_)
      go_simp
      refine (refb_any a1 _ z0 z1).mono ?_; rintro e w5 ⟨rfl, hb⟩; have hw := bthen2 hb (by first | exact hw | exact Below.drew hw | exact bdraws hw _); have HRun := Lib.hid (run_keep2 hb HRun.out); have hw4 := bthen2 hb (by first | exact hw4 | exact Below.drew hw4 | exact bdraws hw4 _); have HD := Lib.hid (reads_keep2 (B := w4.heap.size) hb (by exact Nat.le_refl _) HD.out); clear hb
      refine hK.out _ _ (by (try dsimp only); exact ⟨row8_str (B := w4.heap.size) (by exact HD.out) HK.out, row8_str (B := w.heap.size) (by first | exact HR0.out.below hw | exact HR0.out.below (Below.drew hw)) HN0.out⟩) (fun hHeld => ?_)
      clear hK K
      try simp only [Act.put, List.setIfInBounds_toArray, List.set_cons_zero, List.set_cons_succ]
      refine held_take (i := 6) (v := ?_) rfl (by kernel_rfl) (by kernel_rfl) (by kernel_rfl) (fun _ _ _ h => h) (by rfl) ?_ (by assumption) ?_
      rotate_left
      · intro w hSw
        (try dsimp only at hSw)
        go_simp
        try with_reducible rfl
      try simp only [Act.put, List.setIfInBounds_toArray, List.set_cons_zero, List.set_cons_succ]
      refine held_take (i := 7) (v := ?_) rfl (by kernel_rfl) (by kernel_rfl) (by kernel_rfl) (fun _ _ _ h => h) (by rfl) ?_ (by assumption) ?_
      rotate_left
      · intro w hSw
        (try dsimp only at hSw)
        go_simp
        try with_reducible rfl
      try simp only [Act.put, List.setIfInBounds_toArray, List.set_cons_zero, List.set_cons_succ]
      refine held_take (i := 8) (v := ?_) rfl (by kernel_rfl) (by kernel_rfl) (by kernel_rfl) (fun _ _ _ h => h) (by rfl) ?_ (by assumption) ?_
      rotate_left
      · intro w hSw
        (try dsimp only at hSw)
        go_simp
        try with_reducible rfl
      try simp only [Act.put, List.setIfInBounds_toArray, List.set_cons_zero, List.set_cons_succ]
      refine wpAnyH_done (by kernel_rfl) ?_ _
      go_wp2_with fail
      go_loopw [10] (fun ci wr => ∃ k : Nat, k ≤ K ∧ ci = .int .i64 k ∧ Hid (Run8 wr g K) ∧ Below w3.heap.size w3 wr) (fun ci _ => K - (intOf ci).toNat)
      case atStart => exact ⟨0, by omega, rfl, HRun, hw4⟩
      case round =>
        obtain ⟨k, hk, rfl, HRk, hbl⟩ := hrel
        by_cases hlt : k < K
        · obtain ⟨y, y0, y1, hy⟩ := HRk.out.cell hlt
          have HS := fun (v : Int) (h0 : 0 ≤ v) (h1 : v < 256) => HRk.out.set (k := k) h0 h1
          have HSH := Lib.hid HS
          clear HS
          have hfz := HRk.out.frz (k := k)
          have b2 : (0 : Int) ≤ (k : Int) := by omega
          have b3 : (k : Int) < (K : Int) := by omega
          go_wp2_with fail
          exact ⟨⟨k + 1, by omega, by go_num, Lib.hid (HSH.out _ (by omega) (by omega)), hbl.setCell hgB _⟩, by simp [intOf]; omega⟩
        · have hkn : k = K := by omega
          subst hkn
          have hw := bthen2 hbl hw3
          have HSZ : Hid (Vi.sz a1 = (r0 : Int)) := Lib.hid (by rw [← hr0', strOfNums_size]; rfl)
          go_wp2_with fail
          refine wp_region_held_drew (S := (fun w' => (convert 62 9 (.slice Ac L0.length kc)).run Try.prog w' = .ok (.string (strOfNums L0)) w' ∧ (convert 62 9 (.slice A0 n0 c0)).run Try.prog w' = .ok (.string (strOfNums L0)) w')) (by kernel_rfl) (by (try dsimp only); exact ⟨row8_str (B := w3.heap.size) (by first | exact HC3.out.below hbl | exact HC3.out.below (Below.drew hbl)) rfl, row8_str (B := w.heap.size) (by first | exact HR0.out.below hw | exact HR0.out.below (Below.drew hw)) HN0.out⟩) (fun hHeld => ?_)
          simp only [List.size_toArray, List.length_cons, List.length_nil, Nat.zero_add, Nat.reduceAdd]
          refine held_take (i := 0) (v := ?_) rfl (by kernel_rfl) (by kernel_rfl) (by kernel_rfl) (fun _ _ _ h => h) (by rfl) ?_ (by assumption) ?_
          rotate_left
          · intro w hSw
            (try dsimp only at hSw)
            go_simp
            try with_reducible rfl
          try simp only [Act.put, List.setIfInBounds_toArray, List.set_cons_zero, List.set_cons_succ]
          refine held_take (i := 1) (v := ?_) rfl (by kernel_rfl) (by kernel_rfl) (by kernel_rfl) (fun _ _ _ h => h) (by rfl) ?_ (by assumption) ?_
          rotate_left
          · intro w hSw
            (try dsimp only at hSw)
            go_simp
            try with_reducible rfl
          try simp only [Act.put, List.setIfInBounds_toArray, List.set_cons_zero, List.set_cons_succ]
          refine held_take (i := 2) (v := ?_) rfl (by kernel_rfl) (by kernel_rfl) (by kernel_rfl) (fun _ _ _ h => h) (by rfl) ?_ (by assumption) ?_
          rotate_left
          · intro w hSw
            (try dsimp only at hSw)
            go_simp
            try with_reducible rfl
          try simp only [Act.put, List.setIfInBounds_toArray, List.set_cons_zero, List.set_cons_succ]
          refine held_take (i := 3) (v := ?_) rfl (by kernel_rfl) (by kernel_rfl) (by kernel_rfl) (fun _ _ _ h => h) (by rfl) ?_ (by assumption) ?_
          rotate_left
          · intro w hSw
            (try dsimp only at hSw)
            go_simp
            try with_reducible rfl
          try simp only [Act.put, List.setIfInBounds_toArray, List.set_cons_zero, List.set_cons_succ]
          refine held_take (i := 4) (v := ?_) rfl (by kernel_rfl) (by kernel_rfl) (by kernel_rfl) (fun _ _ _ h => h) (by rfl) ?_ (by assumption) ?_
          rotate_left
          · intro w hSw
            (try dsimp only at hSw)
            go_simp
            try with_reducible rfl
          try simp only [Act.put, List.setIfInBounds_toArray, List.set_cons_zero, List.set_cons_succ]
          refine held_take (i := 5) (v := ?_) rfl (by kernel_rfl) (by kernel_rfl) (by kernel_rfl) (fun _ _ _ h => h) (by rfl) ?_ (by assumption) ?_
          rotate_left
          · intro w hSw
            (try dsimp only at hSw)
            go_simp
            try with_reducible rfl
          try simp only [Act.put, List.setIfInBounds_toArray, List.set_cons_zero, List.set_cons_succ]
          refine held_take (i := 6) (v := ?_) rfl (by kernel_rfl) (by kernel_rfl) (by kernel_rfl) (fun _ _ _ h => h) (by rfl) ?_ (by assumption) ?_
          rotate_left
          · intro w hSw
            (try dsimp only at hSw)
            go_simp
            try with_reducible rfl
          try simp only [Act.put, List.setIfInBounds_toArray, List.set_cons_zero, List.set_cons_succ]
          refine held_take (i := 7) (v := ?_) rfl (by kernel_rfl) (by kernel_rfl) (by kernel_rfl) (fun _ _ _ h => h) (by rfl) ?_ (by assumption) ?_
          rotate_left
          · intro w hSw
            (try dsimp only at hSw)
            go_simp
            try with_reducible rfl
          try simp only [Act.put, List.setIfInBounds_toArray, List.set_cons_zero, List.set_cons_succ]
          refine held_take (i := 8) (v := ?_) rfl (by kernel_rfl) (by kernel_rfl) (by kernel_rfl) (fun _ _ _ h => h) (by rfl) ?_ (by assumption) ?_
          rotate_left
          · intro w hSw
            (try dsimp only at hSw)
            go_simp
            try with_reducible rfl
          try simp only [Act.put, List.setIfInBounds_toArray, List.set_cons_zero, List.set_cons_succ]
          refine held_take (i := 9) (v := ?_) rfl (by kernel_rfl) (by kernel_rfl) (by kernel_rfl) (fun _ _ _ h => h) (by rfl) ?_ (by assumption) ?_
          rotate_left
          · intro w hSw
            (try dsimp only at hSw)
            go_simp
            try with_reducible rfl
          try simp only [Act.put, List.setIfInBounds_toArray, List.set_cons_zero, List.set_cons_succ]
          refine held_take (i := 11) (v := ?_) rfl (by kernel_rfl) (by kernel_rfl) (by kernel_rfl) (fun _ _ _ h => h) (by rfl) ?_ (by assumption) ?_
          rotate_left
          · intro w hSw
            (try dsimp only at hSw)
            go_simp
            try with_reducible rfl
          try simp only [Act.put, List.setIfInBounds_toArray, List.set_cons_zero, List.set_cons_succ]
          refine held_call (i := 10) (by kernel_rfl) rfl (fun K hK => ?_)
          go_simp
          refine (size_any a1 _ z0 z1).mono ?_; rintro e w5 ⟨he, rfl⟩; rw [HSZ.out] at he; subst he
          refine hK.out _ _ (by (try dsimp only); exact ⟨row8_str (B := w3.heap.size) (by first | exact HC3.out.below hbl | exact HC3.out.below (Below.drew hbl)) rfl, row8_str (B := w.heap.size) (by first | exact HR0.out.below hw | exact HR0.out.below (Below.drew hw)) HN0.out⟩) (fun hHeld => ?_)
          clear hK K
          try simp only [Act.put, List.setIfInBounds_toArray, List.set_cons_zero, List.set_cons_succ]
          refine held_call (i := 12) (by kernel_rfl) rfl (fun K hK => ?_)
          go_simp
          refine (refb_any a1 _ z0 z1).mono ?_; rintro e w5 ⟨rfl, hb⟩; have hw := bthen2 hb (by first | exact hw | exact Below.drew hw | exact bdraws hw _); have hbl := bthen2 hb (by first | exact hbl | exact Below.drew hbl | exact bdraws hbl _); clear hb
          refine hK.out _ _ (by (try dsimp only); exact ⟨row8_str (B := w3.heap.size) (by first | exact HC3.out.below hbl | exact HC3.out.below (Below.drew hbl)) rfl, row8_str (B := w.heap.size) (by first | exact HR0.out.below hw | exact HR0.out.below (Below.drew hw)) HN0.out⟩) (fun hHeld => ?_)
          clear hK K
          try simp only [Act.put, List.setIfInBounds_toArray, List.set_cons_zero, List.set_cons_succ]
          refine held_take (i := 13) (v := ?_) rfl (by kernel_rfl) (by kernel_rfl) (by kernel_rfl) (fun _ _ _ h => h) (by rfl) ?_ (by assumption) ?_
          rotate_left
          · intro w hSw
            (try dsimp only at hSw)
            go_simp
            try with_reducible rfl
          try simp only [Act.put, List.setIfInBounds_toArray, List.set_cons_zero, List.set_cons_succ]
          refine held_take (i := 14) (v := ?_) rfl (by kernel_rfl) (by kernel_rfl) (by kernel_rfl) (fun _ _ _ h => h) (by rfl) ?_ (by assumption) ?_
          rotate_left
          · intro w hSw
            (try dsimp only at hSw)
            go_simp
            try with_reducible rfl
          try simp only [Act.put, List.setIfInBounds_toArray, List.set_cons_zero, List.set_cons_succ]
          refine held_take (i := 15) (v := ?_) rfl (by kernel_rfl) (by kernel_rfl) (by kernel_rfl) (fun _ _ _ h => h) (by rfl) ?_ (by assumption) ?_
          rotate_left
          · intro w hSw
            (try dsimp only at hSw)
            go_simp
            try with_reducible rfl
          try simp only [Act.put, List.setIfInBounds_toArray, List.set_cons_zero, List.set_cons_succ]
          refine held_take (i := 16) (v := ?_) rfl (by kernel_rfl) (by kernel_rfl) (by kernel_rfl) (fun _ _ _ h => h) (by rfl) ?_ (by assumption) ?_
          rotate_left
          · intro w hSw
            (try dsimp only at hSw)
            go_simp
            try with_reducible rfl
          try simp only [Act.put, List.setIfInBounds_toArray, List.set_cons_zero, List.set_cons_succ]
          refine held_take (i := 17) (v := ?_) rfl (by kernel_rfl) (by kernel_rfl) (by kernel_rfl) (fun _ _ _ h => h) (by rfl) ?_ (by assumption) ?_
          rotate_left
          · intro w hSw
            (try dsimp only at hSw)
            go_simp
            try with_reducible rfl
          try simp only [Act.put, List.setIfInBounds_toArray, List.set_cons_zero, List.set_cons_succ]
          refine held_take (i := 20) (v := ?_) rfl (by kernel_rfl) (by kernel_rfl) (by kernel_rfl) (fun _ _ _ h => h) (by rfl) ?_ (by assumption) ?_
          rotate_left
          · intro w hSw
            (try dsimp only at hSw)
            go_simp
            try with_reducible rfl
          try simp only [Act.put, List.setIfInBounds_toArray, List.set_cons_zero, List.set_cons_succ]
          refine held_call (i := 18) (by kernel_rfl) rfl (fun K hK => ?_)
          go_simp
          refine (all_any A2 n2 c2 L2 w.heap.size _ (by exact HR2.out.below hw) HN2.out HF2.out (by exact hw.size) (by omega)).mono ?_; intro e w6 hp; obtain ⟨v6, he, hR6, hb⟩ := hp; subst he; obtain ⟨A6, k6, hv, _⟩ := hR6.slice; rw [hv] at hR6; subst hv; have HR6 := Lib.hid (Reads.of_own hR6); have hstr := row8_str (B := w6.heap.size) (c := k6) HR6.out rfl; have HST := Lib.hid hstr; clear hstr hR6; have hw := bthen2 hb (by first | exact hw | exact Below.drew hw | exact bdraws hw _); have hbl := bthen2 hb (by first | exact hbl | exact Below.drew hbl | exact bdraws hbl _); clear hb
          refine hK.out _ _ (by (try dsimp only); exact ⟨row8_str (B := w3.heap.size) (by first | exact HC3.out.below hbl | exact HC3.out.below (Below.drew hbl)) rfl, row8_str (B := w.heap.size) (by first | exact HR0.out.below hw | exact HR0.out.below (Below.drew hw)) HN0.out⟩) (fun hHeld => ?_)
          clear hK K
          try simp only [Act.put, List.setIfInBounds_toArray, List.set_cons_zero, List.set_cons_succ]
          have hstr := HST.out
          refine held_two (i := 19) (j := 21) (by kernel_rfl) rfl rfl (fun K hK => ?_) (fun K hK => ?_)
          · go_simp

            refine hK.out _ _ (by (try dsimp only); exact ⟨row8_str (B := w3.heap.size) (by first | exact HC3.out.below hbl | exact HC3.out.below (Below.drew hbl)) rfl, row8_str (B := w.heap.size) (by first | exact HR0.out.below hw | exact HR0.out.below (Below.drew hw)) HN0.out⟩) (fun hHeld => ?_)
            clear hK K
            try simp only [Act.put, List.setIfInBounds_toArray, List.set_cons_zero, List.set_cons_succ]
            clear hstr
            refine held_call (i := 21) (by kernel_rfl) rfl (fun K hK => ?_)
            go_simp
            refine (refall_any A2 n2 c2 L2 w.heap.size _ (by exact HR2.out.below hw) HN2.out HF2.out (by exact hw.size) (by omega)).mono ?_; rintro e w7 ⟨rfl, hb⟩; have hw := bthen2 hb (by first | exact hw | exact Below.drew hw | exact bdraws hw _); have hbl := bthen2 hb (by first | exact hbl | exact Below.drew hbl | exact bdraws hbl _); clear hb
            refine hK.out _ _ (by (try dsimp only); exact ⟨row8_str (B := w3.heap.size) (by first | exact HC3.out.below hbl | exact HC3.out.below (Below.drew hbl)) rfl, row8_str (B := w.heap.size) (by first | exact HR0.out.below hw | exact HR0.out.below (Below.drew hw)) HN0.out⟩) (fun hHeld => ?_)
            clear hK K
            try simp only [Act.put, List.setIfInBounds_toArray, List.set_cons_zero, List.set_cons_succ]
            refine held_take (i := 22) (v := ?_) rfl (by kernel_rfl) (by kernel_rfl) (by kernel_rfl) (fun _ _ _ h => h) (by rfl) ?_ (by assumption) ?_
            rotate_left
            · intro w hSw
              (try dsimp only at hSw)
              go_simp
              try with_reducible rfl
            try simp only [Act.put, List.setIfInBounds_toArray, List.set_cons_zero, List.set_cons_succ]
            refine held_take (i := 23) (v := ?_) rfl (by kernel_rfl) (by kernel_rfl) (by kernel_rfl) (fun _ _ _ h => h) (by rfl) ?_ (by assumption) ?_
            rotate_left
            · intro w hSw
              (try dsimp only at hSw)
              go_simp
              try with_reducible rfl
            try simp only [Act.put, List.setIfInBounds_toArray, List.set_cons_zero, List.set_cons_succ]
            refine held_take (i := 24) (v := ?_) rfl (by kernel_rfl) (by kernel_rfl) (by kernel_rfl) (fun _ _ _ h => h) (by rfl) ?_ (by assumption) ?_
            rotate_left
            · intro w hSw
              (try dsimp only at hSw)
              go_simp
              try with_reducible rfl
            try simp only [Act.put, List.setIfInBounds_toArray, List.set_cons_zero, List.set_cons_succ]
            refine held_call (i := 25) (by kernel_rfl) rfl (fun K hK => ?_)
            go_simp
            refine (awake02 _).mono ?_; rintro e w8 ⟨rfl, hb⟩; have hw := bthen2 hb (by first | exact hw | exact Below.drew hw | exact bdraws hw _); have hbl := bthen2 hb (by first | exact hbl | exact Below.drew hbl | exact bdraws hbl _); clear hb
            refine hK.out _ _ (by (try dsimp only); exact ⟨row8_str (B := w3.heap.size) (by first | exact HC3.out.below hbl | exact HC3.out.below (Below.drew hbl)) rfl, row8_str (B := w.heap.size) (by first | exact HR0.out.below hw | exact HR0.out.below (Below.drew hw)) HN0.out⟩) (fun hHeld => ?_)
            clear hK K
            try simp only [Act.put, List.setIfInBounds_toArray, List.set_cons_zero, List.set_cons_succ]
            refine held_take (i := 26) (v := ?_) rfl (by kernel_rfl) (by kernel_rfl) (by kernel_rfl) (fun _ _ _ h => h) (by rfl) ?_ (by assumption) ?_
            rotate_left
            · intro w hSw
              (try dsimp only at hSw)
              go_simp
              try with_reducible rfl
            try simp only [Act.put, List.setIfInBounds_toArray, List.set_cons_zero, List.set_cons_succ]
            refine held_take (i := 27) (v := ?_) rfl (by kernel_rfl) (by kernel_rfl) (by kernel_rfl) (fun _ _ _ h => h) (by rfl) ?_ (by assumption) ?_
            rotate_left
            · intro w hSw
              (try dsimp only at hSw)
              go_simp
              try with_reducible rfl
            try simp only [Act.put, List.setIfInBounds_toArray, List.set_cons_zero, List.set_cons_succ]
            refine wpAnyH_done (by kernel_rfl) ?_ _
            go_wp2_with fail
            go_ret
            exact ⟨rfl, hw⟩
          · go_simp
            refine (refall_any A2 n2 c2 L2 w.heap.size _ (by exact HR2.out.below hw) HN2.out HF2.out (by exact hw.size) (by omega)).mono ?_; rintro e w7 ⟨rfl, hb⟩; have HR6 := Lib.hid (reads_keep2 (B := w6.heap.size) hb (by exact Nat.le_refl _) HR6.out); have hw := bthen2 hb (by first | exact hw | exact Below.drew hw | exact bdraws hw _); have hbl := bthen2 hb (by first | exact hbl | exact Below.drew hbl | exact bdraws hbl _); clear hb
            refine hK.out _ _ (by (try dsimp only); exact ⟨row8_str (B := w3.heap.size) (by first | exact HC3.out.below hbl | exact HC3.out.below (Below.drew hbl)) rfl, row8_str (B := w.heap.size) (by first | exact HR0.out.below hw | exact HR0.out.below (Below.drew hw)) HN0.out⟩) (fun hHeld => ?_)
            clear hK K
            try simp only [Act.put, List.setIfInBounds_toArray, List.set_cons_zero, List.set_cons_succ]
            clear hstr
            have hstr := row8_str (B := w6.heap.size) (c := k6) HR6.out rfl
            refine held_call (i := 19) (by kernel_rfl) rfl (fun K hK => ?_)
            go_simp

            refine hK.out _ _ (by (try dsimp only); exact ⟨row8_str (B := w3.heap.size) (by first | exact HC3.out.below hbl | exact HC3.out.below (Below.drew hbl)) rfl, row8_str (B := w.heap.size) (by first | exact HR0.out.below hw | exact HR0.out.below (Below.drew hw)) HN0.out⟩) (fun hHeld => ?_)
            clear hK K
            try simp only [Act.put, List.setIfInBounds_toArray, List.set_cons_zero, List.set_cons_succ]
            clear hstr
            refine held_take (i := 22) (v := ?_) rfl (by kernel_rfl) (by kernel_rfl) (by kernel_rfl) (fun _ _ _ h => h) (by rfl) ?_ (by assumption) ?_
            rotate_left
            · intro w hSw
              (try dsimp only at hSw)
              go_simp
              try with_reducible rfl
            try simp only [Act.put, List.setIfInBounds_toArray, List.set_cons_zero, List.set_cons_succ]
            refine held_take (i := 23) (v := ?_) rfl (by kernel_rfl) (by kernel_rfl) (by kernel_rfl) (fun _ _ _ h => h) (by rfl) ?_ (by assumption) ?_
            rotate_left
            · intro w hSw
              (try dsimp only at hSw)
              go_simp
              try with_reducible rfl
            try simp only [Act.put, List.setIfInBounds_toArray, List.set_cons_zero, List.set_cons_succ]
            refine held_take (i := 24) (v := ?_) rfl (by kernel_rfl) (by kernel_rfl) (by kernel_rfl) (fun _ _ _ h => h) (by rfl) ?_ (by assumption) ?_
            rotate_left
            · intro w hSw
              (try dsimp only at hSw)
              go_simp
              try with_reducible rfl
            try simp only [Act.put, List.setIfInBounds_toArray, List.set_cons_zero, List.set_cons_succ]
            refine held_call (i := 25) (by kernel_rfl) rfl (fun K hK => ?_)
            go_simp
            refine (awake02 _).mono ?_; rintro e w8 ⟨rfl, hb⟩; have hw := bthen2 hb (by first | exact hw | exact Below.drew hw | exact bdraws hw _); have hbl := bthen2 hb (by first | exact hbl | exact Below.drew hbl | exact bdraws hbl _); clear hb
            refine hK.out _ _ (by (try dsimp only); exact ⟨row8_str (B := w3.heap.size) (by first | exact HC3.out.below hbl | exact HC3.out.below (Below.drew hbl)) rfl, row8_str (B := w.heap.size) (by first | exact HR0.out.below hw | exact HR0.out.below (Below.drew hw)) HN0.out⟩) (fun hHeld => ?_)
            clear hK K
            try simp only [Act.put, List.setIfInBounds_toArray, List.set_cons_zero, List.set_cons_succ]
            refine held_take (i := 26) (v := ?_) rfl (by kernel_rfl) (by kernel_rfl) (by kernel_rfl) (fun _ _ _ h => h) (by rfl) ?_ (by assumption) ?_
            rotate_left
            · intro w hSw
              (try dsimp only at hSw)
              go_simp
              try with_reducible rfl
            try simp only [Act.put, List.setIfInBounds_toArray, List.set_cons_zero, List.set_cons_succ]
            refine held_take (i := 27) (v := ?_) rfl (by kernel_rfl) (by kernel_rfl) (by kernel_rfl) (fun _ _ _ h => h) (by rfl) ?_ (by assumption) ?_
            rotate_left
            · intro w hSw
              (try dsimp only at hSw)
              go_simp
              try with_reducible rfl
            try simp only [Act.put, List.setIfInBounds_toArray, List.set_cons_zero, List.set_cons_succ]
            refine wpAnyH_done (by kernel_rfl) ?_ _
            go_wp2_with fail
            go_ret
            exact ⟨rfl, hw⟩

set_option maxRecDepth 100000 in
set_option maxHeartbeats 1000000 in
theorem lifted (os : Os) (started : os.Started) (H : Type) (enc : TypeId × Value → H) :
    ReturnsInHanded {} Try.checked os 11 .any (Rows.varintPutsSpec.pre6 enc Try.prog Try.f11 Rows.varintPutsRow.domain false) (Rows.varintPutsSpec.post enc Try.prog Try.f11 false true false false) := by
  refine returnsInHanded_of_change_sized (C := Try.checked) own_ started (by kernel_rfl) Try.func11
    (ChangeSpec.witness6 (enc := enc) (C := Try.checked) false ⟨#[], #[.slice none 0 0, .int .u64 0, .slice none 0 0], []⟩ 8 (by kernel_rfl) (by kernel_rfl) (by kernel_rfl) (by kernel_rfl)) ?_
  intro W base args ds gs before hval0 hW hcnd hsz0 _
  have hval : ∀ (j : Nat) t v, Try.f11.params[j]? = some t → args[j]? = some v → Value.okWide Try.prog W .any base t v := hval0
  have hW' := hW
  obtain ⟨p, q, hA0, hV, e0, hfz, hnd⟩ := hW
  clear e0 hfz hnd hcnd
  have hA : DataW.TrodAll enc Try.prog W 0 (fun _ => true) true Try.f11.params.toList args.toList ds p := hA0
  have hsz : (DataW.weightsEach Try.prog (Try.f11.params.toList ++ Rows.varintPutsSpec.plain.varTypes Try.prog) (ds ++ gs)).all (· ≤ reachBytes) = true := hsz0
  rw [Try.params11] at hA hval hsz
  obtain ⟨v0, vs0, d0, ds0, p0, q0, hargs, rfl, e0, h0, rr0⟩ := trodAll_cons hA
  obtain ⟨v1, vs1, d1, ds1, p1, q1, rfl, rfl, e1, h1, rr1⟩ := trodAll_cons rr0
  obtain ⟨v2, vs2, d2, ds2, p2, q2, rfl, rfl, e2, h2, rr2⟩ := trodAll_cons rr1
  obtain ⟨rfl, rfl, eN⟩ := trodAll_nil rr2
  obtain rfl : args = #[v0, v1, v2] := by cases args; simp_all
  obtain ⟨A0, n0, c0, L0, rfl, hr0, hn0, hf0, hm0, hc0⟩ := open_bytes Try.underlying62 Try.underlying5 (by kernel_rfl) (by kernel_rfl) (hval 0 62 v0 rfl rfl) h0 (fun elems spare hd => sized_slice hsz (j := 0) rfl (by rw [hd]; rfl) Try.underlying62)
  obtain ⟨a1, rfl, _, _, w1⟩ := open_int Try.underlying22 (hval 1 22 v1 rfl rfl) h1
  obtain ⟨A2, n2, c2, L2, rfl, hr2, hn2, hf2, hm2, hc2⟩ := open_u64s Try.underlying63 Try.underlying22 (by kernel_rfl) (by kernel_rfl) (hval 2 63 v2 rfl rfl) h2 (fun elems spare hd => sized_slice hsz (j := 2) rfl (by rw [hd]; rfl) Try.underlying63)
  refine (walk W A0 n0 c0 L0 hr0 hn0 hf0 hm0 hc0 a1 w1 A2 n2 c2 L2 hr2 hn2 hf2 hm2 hc2).mono fun e W' ⟨he, hb⟩ => ?_
  subst he
  exact ⟨_, rfl, law_post laid_ (by kernel_rfl) hW' rfl rfl (by kernel_rfl) Try.underlying4 hb⟩

theorem over : Rows.varintPutsRow.holds Try.pinned (OpenSpec.ofChange Rows.varintPutsSpec) :=
  OpenClaim.holds_of_wide 11 Try.f11 rfl rfl rfl rfl rfl rfl rfl ⟨rfl, rfl, rfl, rfl, rfl⟩ rfl rfl rfl rfl rfl (by kernel_rfl) Try.func11 (by kernel_rfl)
    (of_decide_eq_true (by kernel_rfl)) (by unfold Func.isWrapper; first | (rw [if_pos (by decide +kernel)]; kernel_rfl) | (rw [if_neg (by decide +kernel)]; exact ⟨rfl, rfl⟩))
    (fun os started H enc _ => lifted os started H enc)

theorem proved : Rows.VarintPutsSaid := over
end Go.Proofs.Ytppciejcobmikaa.varintPuts
