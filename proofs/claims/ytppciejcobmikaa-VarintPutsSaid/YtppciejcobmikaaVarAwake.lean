/- The small example of layer 2. -/
import Derived.Test.YtppciejcobmikaaVarTake
import Derived.Test.YtppciejcobmikaaVarSize
import Derived.Laws.BytesArg
import Derived.Lib.SmallJoins
import Derived.Lib.SlBytesConst
namespace Go.Proofs.Ytppciejcobmikaa
open Go.RowKit

/-- 'string(b)' of a row of bytes -/
theorem row8_str {w : World} {B n c : Nat} {A : Option Addr} {l : List Int} (h : Reads w B 1 A n (l.map (Value.int .u8))) (hn : n = l.length) : (convert 62 9 (.slice A n c)).run Try.prog w = .ok (.string (strOfNums l)) w := by
  subst hn
  rcases Nat.eq_zero_or_pos l.length with h0 | h0
  · have hl : l = [] := List.eq_nil_of_length_eq_zero h0
    subst hl
    cases A with
    | none => exact run_convert_bytes_nil w 62 5 Try.underlying62 Try.underlying5 0 c 9 Try.underlying9
    | some ad =>
      show (convert 62 9 (.slice (some ad) 0 c)).run Try.prog w = _
      rw [run_convert_bytes_string w 62 9 5 (some ad) 0 c Try.underlying62 Try.underlying5 Try.underlying9]
      exact run_bytesToString w ad 0 c [] (by simpa using run_loadCells_list (P := Try.prog) w ad [] (fun j v hj => by simp at hj))
  · obtain ⟨g, off, rfl, _, _⟩ := h.num rfl 0 h0
    refine run_convert_bytes_arg w 62 5 Try.underlying62 Try.underlying5 g off l.length c l rfl (fun i hi => ?_) 9 Try.underlying9
    obtain ⟨g', off', e, _, hc⟩ := h.num rfl i hi
    injection e with e
    injection e with e1 e2 _
    subst e1 e2
    rw [hc]
    simp [List.getD, List.getElem?_eq_getElem hi]

theorem scend_at (s : ByteArray) (a : Int) (h : a = s.size) (w : World) :
    Calls Try.prog 56 #[Sc s a 0] w fun r w' => r = .returned (.int .i64 0) ∧ Below w.heap.size w w' := by
  subst h; exact scend_any s w
theorem Row8.str {w : World} {B : Nat} {A : Option Addr} {c : Nat} {l : List Int} (h : Row8 w B (.slice A l.length c) l) : (convert 62 9 (.slice A l.length c)).run Try.prog w = .ok (.string (strOfNums l)) w :=
  row8_str (Reads.of_own h) rfl
theorem row8_keep {w w' : World} {B : Nat} {v : Value} {l : List Int} (h : Hid (Row8 w B v l)) (hb : Below w.heap.size w w') : Hid (Row8 w' B v l) := Lib.hid (h.out.keep hb)
theorem row8_alloc {w : World} {B : Nat} {v : Value} {l : List Int} (h : Hid (Row8 w B v l)) (o : Obj) : Hid (Row8 (w.alloc o) B v l) := Lib.hid (h.out.alloc o)

set_option maxRecDepth 100000 in
set_option maxHeartbeats 4000000 in
theorem awake02 (w : World) :
    Calls Try.prog 43 #[] w fun e w' => e = .returned (.bool true) ∧ Below w.heap.size w w' := by
  have kc := fun (w : World) (C : Array Value) (n c : Nat) => Lib.run_convert_bytes_const (P := Try.prog) w 62 5 C n c Try.underlying62 Try.underlying5
  have x1 : [120] ++ Vi.bytes 300 = [120, 172, 2] := by decide +kernel
  have x2 : strOfNums [120, 172, 2] = ⟨#[120, 172, 2]⟩ := by decide +kernel
  have x3 : Vi.all [1, 300] = [1, 172, 2] := by decide +kernel
  have x4 : strOfNums [1, 172, 2] = ⟨#[1, 172, 2]⟩ := by decide +kernel
  have X1 := Lib.hid x1
  have X2 := Lib.hid x2
  have X3 := Lib.hid x3
  have X4 := Lib.hid x4
  clear x1 x2 x3 x4
  have g1 : Vi.gx ⟨#[120, 172, 2]⟩ 1 0 = 300 ∧ Vi.ga ⟨#[120, 172, 2]⟩ 1 0 = 3 ∧ Vi.gb ⟨#[120, 172, 2]⟩ 1 0 = 0 := by decide +kernel
  have g2 : Vi.gb ⟨#[128, 0]⟩ 0 0 = 4 ∧ Vi.ga ⟨#[128, 0]⟩ 0 0 = 0 := by decide +kernel
  have g3 : Vi.gb ⟨#[255]⟩ 0 0 = 3 ∧ Vi.ga ⟨#[255]⟩ 0 0 = 0 := by decide +kernel
  have g4 : Vi.tx ⟨#[1, 172, 2]⟩ 0 0 2 = [1, 300] ∧ Vi.ta ⟨#[1, 172, 2]⟩ 0 0 2 = 3 ∧ Vi.tb ⟨#[1, 172, 2]⟩ 0 0 2 = 0 := by decide +kernel
  have g5 : Vi.sz 9223372036854775808 = 10 := by decide +kernel
  have g6 : Vi.sz 0 = 1 := by decide +kernel
  obtain ⟨g1a, g1b, g1c⟩ := g1
  obtain ⟨g2a, g2b⟩ := g2
  obtain ⟨g3a, g3b⟩ := g3
  have G4 := Lib.hid g4
  clear g4
  have HR0 : Hid (Reads (w.alloc (.cells #[.int .u8 120] 5 (1, 2))) (w.heap.size + 1) 1 (some ⟨w.heap.size, 0, none⟩) 1 (([120] : List Int).map (Value.int .u8))) := Lib.hid ⟨rfl, fun _ => ⟨_, rfl, by simp, fun j u hu => by
    cases j with
    | zero => simp at hu; subst hu; exact cell_of_row _ w.heap.size 0 _ _ _ (heap_alloc_new w _)
    | succ j => simp at hu⟩⟩
  go_enter Try.func43, Try.ntmps43
  go_wp2_with fail
  refine (put_any _ 1 1 [120] 300 _ _ HR0.out rfl (by simp) (by omega) (by omega) (by omega)).mono ?_
  intro e w1 hp
  obtain ⟨v, he, hR, hb⟩ := hp
  subst he
  rw [X1.out] at hR
  obtain ⟨Ab, kb, hv, _⟩ := hR.slice
  rw [hv] at hR
  have HB := Lib.hid hR
  have hstr : (convert 62 9 (.slice Ab 3 kb)).run Try.prog w1 = .ok (.string ⟨#[120, 172, 2]⟩) w1 := by rw [← X2.out]; exact hR.str
  have hv : v = .slice Ab 3 kb := hv
  subst hv
  have hw : Below w.heap.size w w1 := bthen ((Below.refl _ _).alloc (Nat.le_refl _) _) hb
  clear hR hb
  go_wp2_with fail
  clear hstr
  refine (get_any ⟨#[120, 172, 2]⟩ 1 0 (by decide) _).mono ?_
  intro e w2 hp
  obtain ⟨he, hb⟩ := hp
  subst he
  have HB := row8_keep HB hb
  have hw := bthen2 hb hw
  clear hb
  go_wp2_with fail
  refine (get_any ⟨#[128, 0]⟩ 0 0 (by decide) _).mono ?_
  intro e w3 hp
  obtain ⟨he, hb⟩ := hp
  subst he
  obtain ⟨hA, hs3, hb'⟩ := blk_one hb
  have H3 := Lib.hid hA
  have HB := row8_keep HB hb'
  have hw := bthen2 hb' hw
  clear hb hb' hA hs3
  go_wp2_with fail
  refine (get_any ⟨#[255]⟩ 0 0 (by decide) _).mono ?_
  intro e w4 hp
  obtain ⟨he, hb⟩ := hp
  subst he
  obtain ⟨hA, hs3, hb'⟩ := blk_one hb
  have H5 := Lib.hid hA
  have H3 := Lib.hid (blk_keep H3.out hb')
  have HB := row8_keep HB hb'
  have hw := bthen2 hb' hw
  clear hb hb' hA hs3
  go_wp2_with fail
  refine (take_any ⟨#[1, 172, 2]⟩ 0 0 2 (by decide) _).mono ?_
  intro e w5 hp
  obtain ⟨v5, he, hR, hb⟩ := hp
  rw [G4.out.1] at hR
  rw [G4.out.2.1, G4.out.2.2] at he
  subst he
  obtain ⟨hA, hs3, hb'⟩ := blk_one hb
  have H7 := Lib.hid hA
  have H5 := Lib.hid (blk_keep H5.out hb')
  have H3 := Lib.hid (blk_keep H3.out hb')
  have HB := row8_keep HB hb'
  have hw := bthen2 hb' hw
  obtain ⟨g, cap, hv, _, hgl⟩ := World.ownsRow.form hR (by decide)
  unfold Row64 at hR
  rw [hv] at hR
  have hv : v5 = .slice (some ⟨g, 0, none⟩) 2 cap := hv
  subst hv
  have hc1 := (World.ownsRow.cells hR (g := g) rfl) 1 (.int .u64 300) rfl
  have ha : (⟨g, 0, none⟩ : Addr).add 1 = ⟨g, 1, none⟩ := rfl
  rw [ha] at hc1
  obtain ⟨⟨_, _, p32⟩, _⟩ := blk_cells3 H3.out
  obtain ⟨⟨p30, p31, p32⟩, _⟩ := blk_cells3 H3.out
  obtain ⟨⟨_, _, p52⟩, _⟩ := blk_cells3 H5.out
  obtain ⟨⟨_, _, p72⟩, _⟩ := blk_cells3 H7.out
  have hl3 := blk_lt H3.out
  have hl5 := blk_lt H5.out
  have hl7 := blk_lt H7.out
  clear hb hb' hA hs3 hR
  have hstr : (convert 62 9 (.slice Ab 3 kb)).run Try.prog (w5.alloc (.cells #[.string ⟨#[1, 172, 2]⟩, .int .i64 3, .int .i64 0] 73)) = .ok (.string ⟨#[120, 172, 2]⟩) (w5.alloc (.cells #[.string ⟨#[1, 172, 2]⟩, .int .i64 3, .int .i64 0] 73)) := by rw [← X2.out]; exact (row8_alloc HB _).out.str
  go_wp2_with fail
  refine (scend_at ⟨#[120, 172, 2]⟩ 3 rfl _).mono ?_; rintro e w6 ⟨rfl, hb⟩
  obtain ⟨hA, hs3, hb'⟩ := blk_one hb
  have H9 := Lib.hid hA
  have H7 := Lib.hid (blk_keep H7.out hb')
  have H5 := Lib.hid (blk_keep H5.out hb')
  have hw := bthen2 hb' hw
  have hcell := (bcell hb').1 g 1 hgl
  rw [hc1] at hcell
  clear hstr p30 p31 p32 p52 p72 hl3 hl5 hl7 hb hb' hA hs3 hc1
  obtain ⟨⟨_, _, p52⟩, _⟩ := blk_cells3 H5.out
  obtain ⟨⟨_, _, p72⟩, _⟩ := blk_cells3 H7.out
  obtain ⟨⟨_, p91, _⟩, _⟩ := blk_cells3 H9.out
  go_wp2_with fail
  refine (size_any _ _ (by omega) (by omega)).mono ?_; rintro e w7 ⟨rfl, rfl⟩
  go_wp2_with fail
  refine (size_any _ _ (by omega) (by omega)).mono ?_; rintro e w7 ⟨rfl, rfl⟩
  go_wp2_with fail
  have HR1 : Hid (Reads (w6.alloc (.cells #[.int .u64 1, .int .u64 300] 22)) (w6.heap.size + 1) 1 (some ⟨w6.heap.size, 0, none⟩) 2 (([1, 300] : List Int).map (Value.int .u64))) := Lib.hid ⟨rfl, fun _ => ⟨_, rfl, by simp, fun j u hu => by
    match j, hu with
    | 0, hu => simp at hu; subst hu; exact cell_of_row _ w6.heap.size 0 _ _ _ (heap_alloc_new w6 _)
    | 1, hu => simp at hu; subst hu; exact cell_of_row _ w6.heap.size 1 _ _ _ (heap_alloc_new w6 _)
    | j + 2, hu => simp at hu⟩⟩
  refine (all_any _ 2 2 [1, 300] _ _ HR1.out rfl (by intro x hx; simp at hx; omega) (by simp) (by omega)).mono ?_
  intro e w8 hp
  obtain ⟨v, he, hR, hb⟩ := hp
  subst he
  rw [X3.out] at hR
  obtain ⟨Aa, ka, hv, _⟩ := hR.slice
  rw [hv] at hR
  have hstr : (convert 62 9 (.slice Aa 3 ka)).run Try.prog w8 = .ok (.string ⟨#[1, 172, 2]⟩) w8 := by rw [← X4.out]; exact hR.str
  have hv : v = .slice Aa 3 ka := hv
  subst hv
  have hw := bthen2 (blk_one hb).2.2 hw
  clear hR hb
  go_wp2_with fail
  go_ret
  exact ⟨rfl, hw⟩

end Go.Proofs.Ytppciejcobmikaa
