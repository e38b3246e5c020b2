/- The document's Bytes and All: texts. -/
import Derived.Test.YtppciejcobmikaaVarLay
import Derived.Deep.RegionHeld3
import Derived.Deep.RegionWith
namespace Go.Proofs.Ytppciejcobmikaa
open Go.RowKit

theorem str1 (x : Int) : ∀ (W : World) (g c : Nat), W.cell? ⟨g, 0, none⟩ = some (.int .u8 x) → (convert 62 9 (.slice (some ⟨g, 0, none⟩) 1 c)).run Try.prog W = .ok (.string (strOfNums [x])) W := by
  intro W g c h
  exact run_convert_bytes_arg W 62 5 Try.underlying62 Try.underlying5 g 0 1 c [x] rfl (fun i hi => by have h0 : i = 0 := (by omega); subst h0; exact h) 9 Try.underlying9

set_option maxRecDepth 100000 in
set_option maxHeartbeats 1000000 in
theorem refbytes_any (f : Nat) : ∀ (x : Int) (w : World), f ≤ 9 → 0 ≤ x → x < 18446744073709551616 → Hid (x < Vi.cap f) →
    Calls Try.prog 45 #[.int .u64 x] w fun e w' => e = .returned (.string (strOfNums (Vi.enc f x))) ∧ Below w.heap.size w w' := by
  have small : ∀ (f : Nat) (x : Int) (w : World), 0 ≤ x → x < 128 → Calls Try.prog 45 #[.int .u64 x] w fun e w' => e = .returned (.string (strOfNums (Vi.enc f x))) ∧ Below w.heap.size w w' := by
    intro f x w h0 h1
    rw [Vi.enc_small f h1]
    have hs := str1 x
    have h256 : x % 256 = x := by omega
    go_enter Try.func45, Try.ntmps45
    go_wp2_with fail
    go_ret
    exact ⟨rfl, blk_new _ _⟩
  induction f with
  | zero =>
    intro x w hf h0 h1 hc
    exact small 0 x w h0 (by have := hc.out; simp [Vi.cap] at this; omega)
  | succ f ih =>
    intro x w hf h0 h1 hc
    by_cases h : x < 128
    · exact small (f + 1) x w h0 h
    · rw [Vi.enc_big f (by omega)]
      have hd := Lib.hid (Vi.cap_div hc.out)
      have hs := str1 (x % 128 + 128)
      have h256 : x % 128 % 256 = x % 128 := by omega
      have hcat := Lib.hid (str_app [x % 128 + 128] (Vi.enc f (x / 128)))
      have IH := Lib.hid (fun w => ih (x / 128) w (by omega) (by omega) (by omega) hd)
      clear ih small hc
      go_enter Try.func45, Try.ntmps45
      go_wp2_with fail
      have t1 : x.tmod 128 = x % 128 := Int.tmod_eq_emod_of_nonneg h0
      have t2 : x.tdiv 128 = x / 128 := Int.tdiv_eq_ediv_of_nonneg h0
      have t3 : IntKind.u8.wrap (x % 128) = x % 128 := IntWalk.u8_in _ (by omega)
      have t4 : IntKind.u8.wrap (x % 128 + 128) = x % 128 + 128 := IntWalk.u8_in _ (by omega)
      have t5 : IntKind.u64.wrap (x / 128) = x / 128 := u64w (by omega) (by omega)
      have t6 : IntKind.u64.wrap (x % 128) = x % 128 := u64w (by omega) (by omega)
      have s1 : (strOfNums [x % 128 + 128]).size = 1 := strOfNums_size _
      obtain ⟨m, s2, hm0, hm⟩ : ∃ m, (strOfNums (Vi.enc f (x / 128))).size = m ∧ 0 ≤ m ∧ m ≤ 10 := ⟨_, rfl, Nat.zero_le _, by rw [strOfNums_size]; have := (Vi.enc_len f (x / 128)).2; omega⟩
      go_region_with (first | (go_at_call 45; (with_reducible refine (IH.out _).mono ?_); rintro e w1 ⟨rfl, hb⟩; obtain ⟨hcl, hfr⟩ := bcell hb))
      all_goals
        go_wp2_with fail
        go_ret
        refine ⟨by rw [hcat.out]; rfl, ?_⟩
        first
          | exact bthen ((blk_new w _).drew) hb
          | exact (bthen ((Below.refl w.heap.size w).drew) hb).alloc (bthen ((Below.refl w.heap.size w).drew) hb).size _

theorem refb_any (x : Int) (w : World) (h0 : 0 ≤ x) (h1 : x < 18446744073709551616) :
    Calls Try.prog 45 #[.int .u64 x] w fun e w' => e = .returned (.string (strOfNums (Vi.bytes x))) ∧ Below w.heap.size w w' :=
  refbytes_any 9 x w (by omega) h0 h1 (Lib.hid (by rw [Vi.cap9]; exact h1))

set_option maxHeartbeats 1000000 in
theorem refall_any (A : Option Addr) (n cap : Nat) (l : List Int) (B : Nat) (w : World) (hr : Reads w B 1 A n (l.map (Value.int .u64))) (hn : n = l.length) (hf : ∀ x ∈ l, 0 ≤ x ∧ x < 18446744073709551616) (hB : B ≤ w.heap.size) (hm : n ≤ 10000) :
    Calls Try.prog 48 #[.slice A n cap] w fun e w' => e = .returned (.string (strOfNums (Vi.all l))) ∧ Below w.heap.size w w' := by
  have HR := Lib.hid hr
  have HN := Lib.hid hn
  have HF := Lib.hid hf
  clear hr hn hf
  go_enter Try.func48, Try.ntmps48
  go_wp2_with fail
  go_loopw [3, 4] (fun cs ci wr => ∃ k : Nat, k ≤ n ∧ ci = .int .i64 k ∧ cs = .string (strOfNums (Vi.all (l.take k))) ∧ Below w.heap.size w wr) (fun _ ci _ => n - (intOf ci).toNat)
  case atStart => exact ⟨0, by omega, rfl, rfl, Below.refl _ _⟩
  case round =>
    obtain ⟨k, hk, rfl, rfl, hbl⟩ := hrel
    by_cases hlt : k < n
    · have hlt' : k < l.length := by rw [← HN.out]; exact hlt
      obtain ⟨g, off, rfl, hg, hc⟩ := ((HR.out.more hB).below hbl).num HN.out k hlt'
      have hx := HF.out _ (List.getElem_mem hlt')
      have hs : strOfNums (Vi.all (l.take k)) ++ strOfNums (Vi.bytes (l[k]'hlt')) = strOfNums (Vi.all (l.take (k + 1))) := by rw [List.take_succ_eq_append_getElem hlt', Vi.all_snoc, str_app]
      have hlen := Vi.all_len (l.take k)
      have hlk := List.length_take_le k l
      obtain ⟨x, he⟩ : ∃ x, x = l[k]'hlt' := ⟨_, rfl⟩
      rw [← he] at hc hx hs
      have HS := Lib.hid hs
      have HX := Lib.hid hx
      obtain ⟨m, s1, hm1⟩ : ∃ m, (strOfNums (Vi.all (l.take k))).size = m ∧ m ≤ 1000000 := ⟨_, rfl, by rw [strOfNums_size]; omega⟩
      obtain ⟨q, s2, hq1⟩ : ∃ m, (strOfNums (Vi.bytes x)).size = m ∧ m ≤ 10 := ⟨_, rfl, by rw [strOfNums_size]; exact (Vi.bytes_len x).2⟩
      clear hx hs he hlen hlk
      go_wp2_with fail
      refine (refb_any x _ HX.out.1 HX.out.2).mono ?_; rintro e w1 ⟨rfl, hb⟩
      have hw := bthen2 hb hbl
      clear hb hc
      go_wp2_with fail
      exact ⟨⟨k + 1, by omega, by go_num, by rw [HS.out], hw⟩, by simp [intOf]; omega⟩
    · have hkn : k = n := by omega
      subst hkn
      have hz : l.take k = l := List.take_of_length_le (by rw [← HN.out]; omega)
      have HZ := Lib.hid hz
      clear hz
      go_wp2_with fail
      go_ret
      exact ⟨by rw [HZ.out]; rfl, hbl⟩

end Go.Proofs.Ytppciejcobmikaa
