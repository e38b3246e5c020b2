/- CurveQuarters: at every input the place of a tile by four is that of the one in which it lies, its four parts are the four behind each other, and the law returns true. -/
import Derived.Test.YtdipincjginmcaaLaw
import Derived.Test.YtdipincjginmcaaCurveFacts
namespace Go.Proofs.Ytdipincjginmcaa.curveQuarters
open Go.ChangeShapes Go.WideShapes Go.ChangeAt Go.RowKit
set_option linter.unusedVariables false

/-- which quarters were seen -/
def Cv.seen (n x y : Nat) : Nat → Nat
  | 0 => 0
  | k + 1 => Cv.seen n x y k ||| 2 ^ Cv.kq n x y k
theorem Cv.seen4 (n x y : Nat) (hx : x < 2 ^ n) (hy : y < 2 ^ n) : Cv.seen n x y 4 = 15 := by
  have h := Cv.kq_bits n x y hx hy
  simp only [Cv.seen, Nat.zero_or]
  exact h
theorem Cv.seen_lt (n x y k : Nat) : Cv.seen n x y k < 16 := by
  induction k with
  | zero => unfold Cv.seen; omega
  | succ k ih =>
    unfold Cv.seen
    have hq := Cv.kq_lt n x y k
    have h2 : 2 ^ Cv.kq n x y k < 2 ^ 4 := Nat.pow_lt_pow_right (by omega) hq
    exact Nat.or_lt_two_pow (n := 4) ih h2
theorem u64orp (s q : Nat) (hs : s < 16) (hq : q < 4) : bits .or .u64 (s : Int) (IntKind.u64.wrap ((2 : Int) ^ q)) = ((s ||| 2 ^ q : Nat) : Int) := by
  have h2 : 2 ^ q < 2 ^ 4 := Nat.pow_lt_pow_right (by omega) hq
  rw [u64pow q (by omega), u64_or_nat _ _ (by omega) (by omega)]

set_option maxHeartbeats 2000000 in
theorem walk (a0 : Int) (w0 : (Lit.int .i64 a0).wf = true) (a1 : Int) (w1 : (Lit.int .i64 a1).wf = true) (a2 : Int) (w2 : (Lit.int .i64 a2).wf = true) (w : World) :
    Calls Try.prog 7 #[.int .i64 a0, .int .i64 a1, .int .i64 a2] w fun e w' => e = .returned (.bool true) ∧ Below w.heap.size w w' := by
  obtain ⟨hv0, hv1⟩ := Cv.pv_bd a0 a1 a2
  rcases Bool.eq_false_or_eq_true (Cv.okB a0 a1 a2) with h | h
  · have hpe := Cv.pe_ok h
    have hkid := fun hz k hk => Cv.kid_in h hz k hk
    obtain ⟨n, a, b, e0, e1, e2, hn, ha, hb⟩ := Cv.ok_nat h
    have h15 := Cv.seen4 n a b ha hb
    have z0 : 0 ≤ a0 := by omega
    have z1 : a0 ≤ 26 := by omega
    have x0 : 0 ≤ a1 := by omega
    have y0 : 0 ≤ a2 := by omega
    have t26 := two26 n (by omega)
    have x1 : a1 ≤ 67108864 := by omega
    have y1 : a2 ≤ 67108864 := by omega
    have HK := Lib.hid hkid
    have HN := Lib.hid (show a0.toNat = n ∧ a1.toNat = a ∧ a2.toNat = b by omega)
    have H15 := Lib.hid h15
    clear hkid h15 e0 e1 e2 ha hb w0 w1 w2 t26
    by_cases hz : 0 < a0
    · have hup := Cv.up_in h hz
      have u1 := Cv.pe_ok hup.1
      have u2 : (Cv.pv (a0 - 1) (a1 / 2) (a2 / 2) != Cv.pv a0 a1 a2 / 4) = false := by rw [hup.2]; simp
      clear hup h
      by_cases hl : a0 < 26
      · go_enter Try.func7, Try.ntmps7
        go_wp2_with fail
        refine (place_any _ _ _ _).mono ?_; rintro e w1 ⟨rfl, hb1⟩
        go_wp2_with fail
        refine (place_any _ _ _ _).mono ?_; rintro e w2 ⟨rfl, hb2⟩
        go_wp2_with fail
        have hb0 := bthen hb1 hb2
        clear hb1 hb2
        go_loopw [11, 12] (fun cs ci wr => ∃ k : Nat, k ≤ 4 ∧ ci = .int .i64 k ∧ cs = .int .u64 (Cv.seen n a b k) ∧ Below w.heap.size w wr) (fun _ ci _ => 4 - (intOf ci).toNat)
        case atStart => exact ⟨0, Nat.zero_le _, rfl, rfl, hb0⟩
        case round =>
          obtain ⟨k, hk, rfl, rfl, hbl⟩ := hrel
          clear hb0
          obtain ⟨s, hs⟩ : ∃ s, s = Cv.seen n a b k := ⟨_, rfl⟩
          have hs16 : s < 16 := by rw [hs]; exact Cv.seen_lt n a b k
          by_cases hlt : k < 4
          · obtain ⟨g1, g2, g3⟩ := HK.out hl k hlt
            have g4 := Cv.pe_ok g1
            have g5 : (Cv.pv (a0 + 1) (2 * a1 + (k : Int) % 2) (2 * a2 + (k : Int) / 2) / 4 != Cv.pv a0 a1 a2) = false := by rw [g2]; simp
            obtain ⟨m0, m1⟩ := Cv.pv_bd (a0 + 1) (2 * a1 + (k : Int) % 2) (2 * a2 + (k : Int) / 2)
            rw [HN.out.1, HN.out.2.1, HN.out.2.2] at g3
            obtain ⟨q, hq⟩ : ∃ q, q = Cv.kq n a b k := ⟨_, rfl⟩
            have hq4 : q < 4 := by rw [hq]; exact Cv.kq_lt n a b k
            have hnew : Cv.seen n a b (k + 1) = s ||| 2 ^ q := by rw [Cv.seen, ← hs, ← hq]
            rw [← hq] at g3
            rw [← hs]
            have HE := Lib.hid hnew
            clear g1 g2 hq hnew hs
            go_wp2_with fail
            refine (place_any _ _ _ _).mono ?_; rintro e w3 ⟨rfl, hb3⟩
            go_wp2_with fail
            exact ⟨⟨k + 1, by omega, by go_num, congrArg (Value.int .u64) ((u64orp s q hs16 hq4).trans (by rw [HE.out])), hbl.trans (hb3.mono hbl.size)⟩, by simp [intOf]; omega⟩
          · have hk4 : k = 4 := by omega
            subst hk4
            have hs15 : s = 15 := by rw [hs]; exact H15.out
            rw [← hs]
            subst hs15
            clear hs
            go_wp2_with fail
            refine (awake03 _).mono ?_; rintro e w9 ⟨rfl, hb9⟩
            go_wp2_with fail
            go_ret
            exact ⟨rfl, bthen hbl hb9⟩
      · have hz26 : (a0 == 26) = true := by rw [beq_iff_eq]; omega
        go_enter Try.func7, Try.ntmps7
        go_wp2_with fail
        refine (place_any _ _ _ _).mono ?_; rintro e w1 ⟨rfl, hb1⟩
        go_wp2_with fail
        refine (place_any _ _ _ _).mono ?_; rintro e w2 ⟨rfl, hb2⟩
        go_wp2_with fail
        have hb0 := bthen hb1 hb2
        clear hb1 hb2
        go_loopw [11, 12] (fun cs ci wr => ci = .int .i64 0 ∧ cs = .int .u64 0 ∧ Below w.heap.size w wr) (fun _ ci _ => 4 - (intOf ci).toNat)
        case atStart => exact ⟨rfl, rfl, hb0⟩
        case round =>
          obtain ⟨rfl, rfl, hbl⟩ := hrel
          clear hb0
          go_wp2_with fail
          refine (awake03 _).mono ?_; rintro e w9 ⟨rfl, hb9⟩
          go_wp2_with fail
          go_ret
          exact ⟨rfl, bthen hbl hb9⟩
    · clear h
      have hl : a0 < 26 := by omega
      go_enter Try.func7, Try.ntmps7
      go_wp2_with fail
      refine (place_any _ _ _ _).mono ?_; rintro e w1 ⟨rfl, hb1⟩
      go_wp2_with fail
      have hb0 := hb1
      clear hb1
      go_loopw [11, 12] (fun cs ci wr => ∃ k : Nat, k ≤ 4 ∧ ci = .int .i64 k ∧ cs = .int .u64 (Cv.seen n a b k) ∧ Below w.heap.size w wr) (fun _ ci _ => 4 - (intOf ci).toNat)
      case atStart => exact ⟨0, Nat.zero_le _, rfl, rfl, hb0⟩
      case round =>
        obtain ⟨k, hk, rfl, rfl, hbl⟩ := hrel
        clear hb0
        obtain ⟨s, hs⟩ : ∃ s, s = Cv.seen n a b k := ⟨_, rfl⟩
        have hs16 : s < 16 := by rw [hs]; exact Cv.seen_lt n a b k
        by_cases hlt : k < 4
        · obtain ⟨g1, g2, g3⟩ := HK.out hl k hlt
          have g4 := Cv.pe_ok g1
          have g5 : (Cv.pv (a0 + 1) (2 * a1 + (k : Int) % 2) (2 * a2 + (k : Int) / 2) / 4 != Cv.pv a0 a1 a2) = false := by rw [g2]; simp
          obtain ⟨m0, m1⟩ := Cv.pv_bd (a0 + 1) (2 * a1 + (k : Int) % 2) (2 * a2 + (k : Int) / 2)
          rw [HN.out.1, HN.out.2.1, HN.out.2.2] at g3
          obtain ⟨q, hq⟩ : ∃ q, q = Cv.kq n a b k := ⟨_, rfl⟩
          have hq4 : q < 4 := by rw [hq]; exact Cv.kq_lt n a b k
          have hnew : Cv.seen n a b (k + 1) = s ||| 2 ^ q := by rw [Cv.seen, ← hs, ← hq]
          rw [← hq] at g3
          rw [← hs]
          have HE := Lib.hid hnew
          clear g1 g2 hq hnew hs
          go_wp2_with fail
          refine (place_any _ _ _ _).mono ?_; rintro e w3 ⟨rfl, hb3⟩
          go_wp2_with fail
          exact ⟨⟨k + 1, by omega, by go_num, congrArg (Value.int .u64) ((u64orp s q hs16 hq4).trans (by rw [HE.out])), hbl.trans (hb3.mono hbl.size)⟩, by simp [intOf]; omega⟩
        · have hk4 : k = 4 := by omega
          subst hk4
          have hs15 : s = 15 := by rw [hs]; exact H15.out
          rw [← hs]
          subst hs15
          clear hs
          go_wp2_with fail
          refine (awake03 _).mono ?_; rintro e w9 ⟨rfl, hb9⟩
          go_wp2_with fail
          go_ret
          exact ⟨rfl, bthen hbl hb9⟩
  · have e : Cv.pv a0 a1 a2 = 0 := Cv.pv_not h
    have hpe : (Cv.pe a0 a1 a2 != 0) = true := by rcases Cv.pe_not h with q | q <;> rw [q] <;> rfl
    clear h w0 w1 w2 hv0 hv1
    go_enter Try.func7, Try.ntmps7
    go_wp2_with fail
    refine (place_any _ _ _ _).mono ?_; rintro e w1 ⟨rfl, hb1⟩
    go_wp2_with fail
    refine (awake03 _).mono ?_; rintro e w9 ⟨rfl, hb9⟩
    go_wp2_with fail
    go_ret
    exact ⟨rfl, bthen hb1 hb9⟩

set_option maxRecDepth 100000 in
theorem lifted (os : Os) (started : os.Started) (H : Type) (enc : TypeId × Value → H) :
    ReturnsInHanded {} Try.checked os 7 .any (Rows.curveQuartersSpec.pre6 enc Try.prog Try.f7 Rows.curveQuartersRow.domain false) (Rows.curveQuartersSpec.post enc Try.prog Try.f7 false true false false) := by
  refine returnsInHanded_of_change (C := Try.checked) own_ started (by kernel_rfl) Try.func7
    (ChangeSpec.witness6 (enc := enc) (C := Try.checked) false ⟨#[], #[.int .i64 0, .int .i64 0, .int .i64 0], []⟩ 8 (by kernel_rfl) (by kernel_rfl) (by kernel_rfl) (by kernel_rfl)) ?_
  intro W base args ds gs before hval0 hW hcnd _
  have hval : ∀ (j : Nat) t v, Try.f7.params[j]? = some t → args[j]? = some v → Value.okWide Try.prog W .any base t v := hval0
  have hW' := hW
  obtain ⟨p, q, hA0, hV, e0, hfz, hnd⟩ := hW
  clear e0 hfz hnd hcnd
  have hA : DataW.TrodAll enc Try.prog W 0 (fun _ => true) true Try.f7.params.toList args.toList ds p := hA0
  rw [Try.params7] at hA hval
  obtain ⟨v0, vs0, d0, ds0, p0, q0, hargs, rfl, e0, h0, r0⟩ := trodAll_cons hA
  obtain ⟨v1, vs1, d1, ds1, p1, q1, rfl, rfl, e1, h1, r1⟩ := trodAll_cons r0
  obtain ⟨v2, vs2, d2, ds2, p2, q2, rfl, rfl, e2, h2, r2⟩ := trodAll_cons r1
  obtain ⟨rfl, rfl, eN⟩ := trodAll_nil r2
  obtain rfl : args = #[v0, v1, v2] := by cases args; simp_all
  obtain ⟨a0, rfl, _, _, w0⟩ := open_int Try.underlying3 (hval 0 3 v0 rfl rfl) h0
  obtain ⟨a1, rfl, _, _, w1⟩ := open_int Try.underlying3 (hval 1 3 v1 rfl rfl) h1
  obtain ⟨a2, rfl, _, _, w2⟩ := open_int Try.underlying3 (hval 2 3 v2 rfl rfl) h2
  refine (walk a0 w0 a1 w1 a2 w2 W).mono fun e W' ⟨he, hb⟩ => ?_
  subst he
  exact ⟨_, rfl, law_post laid_ (by kernel_rfl) hW' rfl rfl (by kernel_rfl) Try.underlying4 hb⟩

theorem over : Rows.curveQuartersRow.holds Try.pinned (OpenSpec.ofChange Rows.curveQuartersSpec) :=
  OpenClaim.holds_of_wide 7 Try.f7 rfl rfl rfl rfl rfl rfl rfl ⟨rfl, rfl, rfl, rfl, rfl⟩ rfl rfl rfl rfl rfl (by kernel_rfl) Try.func7 (by kernel_rfl)
    (of_decide_eq_true (by kernel_rfl)) (by unfold Func.isWrapper; first | (rw [if_pos (by decide +kernel)]; kernel_rfl) | (rw [if_neg (by decide +kernel)]; exact ⟨rfl, rfl⟩))
    (fun os started H enc _ => lifted os started H enc)

theorem proved : Rows.CurveQuartersSaid := over
end Go.Proofs.Ytdipincjginmcaa.curveQuarters
