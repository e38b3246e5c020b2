/- The walk of press.Press at the statement's plan. Press and naive's Rows together: what is pressed is read again. The walk of the law's awake: what is made of one tile. -/
import Derived.Test.YtlfahmdndlmhpaaGreatDoorMerge
import Derived.Test.YtlfahmdndlmhpaaGreatDoorM47
import Derived.Test.YtlfahmdndlmhpaaGreatDoorM21
import Derived.Test.YtlfahmdndlmhpaaGreatDoorM29
import Derived.Test.YtlfahmdndlmhpaaGreatDoorM45
import Derived.Test.YtlfahmdndlmhpaaGreatDoorLayGlue
import Derived.Test.YtlfahmdndlmhpaaGreatDoorM42
import Derived.Test.YtlfahmdndlmhpaaGreatDoorM27
namespace Go.Proofs.YtlfahmdndlmhpaaGreatDoor
open Go.RowKit Go.Shelf Go.ChangeShapes

/-- Press's own cells -/
structure Pr (W : World) (b : Nat) (A : Option Addr) (n cap : Nat) (s : ByteArray) : Prop where
  chart : W.heap[b]? = some (.cells #[.slice A n cap] 27 (0, 0))
  plan : W.heap[b + 1]? = some (.cells #[.int .i64 512, .int .u8 0, .string ⟨#[123, 125]⟩] 34 (0, 0))
  str : W.heap[b + 1 + 1]? = some (.cells #[.string s] 9 (0, 0))
  err : W.heap[b + 1 + 1 + 1]? = some (.cells #[.int .i64 0] 30 (0, 0))
theorem Pr.keep {W Y : World} {b n cap : Nat} {A : Option Addr} {s : ByteArray} (h : Pr W b A n cap s) (hb : Below W.heap.size W Y) : Pr Y b A n cap s := ⟨blk_keep2 hb h.chart, blk_keep2 hb h.plan, blk_keep2 hb h.str, blk_keep2 hb h.err⟩
theorem Pr.drew {W : World} {b n cap : Nat} {A : Option Addr} {s : ByteArray} (h : Pr W b A n cap s) : Pr W.drew b A n cap s := ⟨h.chart, h.plan, h.str, h.err⟩
theorem Pr.set {W : World} {b n cap : Nat} {A : Option Addr} {s : ByteArray} (h : Pr W b A n cap s) : Pr (W.setCell ⟨b + 1 + 1 + 1, 0, none⟩ (.int .i64 0)) b A n cap s :=
  ⟨set_far h.chart (by omega), set_far h.plan (by omega), set_far h.str (by omega), (set_blk h.err).trans (by rfl)⟩
theorem Pr.put {W : World} {b n cap : Nat} {A : Option Addr} {s : ByteArray} (h : Pr W b A n cap s) (t : ByteArray) : Pr (W.setCell ⟨b + 1 + 1, 0, none⟩ (.string t)) b A n cap t :=
  ⟨set_far h.chart (by omega), set_far h.plan (by omega), (set_blk h.str).trans (by rfl), set_far h.err (by omega)⟩
theorem Pr.cells {W : World} {b n cap : Nat} {A : Option Addr} {s : ByteArray} (h : Pr W b A n cap s) : W.cell? ⟨b, 0, none⟩ = some (.slice A n cap) ∧ W.cell? ⟨b + 1, 0, none⟩ = some (.int .i64 512) ∧ W.cell? ⟨b + 1, 1, none⟩ = some (.int .u8 0) ∧ W.cell? ⟨b + 1, 2, none⟩ = some (.string ⟨#[123, 125]⟩) ∧
    W.cell? ⟨b + 1 + 1, 0, none⟩ = some (.string s) ∧ W.cell? ⟨b + 1 + 1 + 1, 0, none⟩ = some (.int .i64 0) ∧ W.frozen? ⟨b + 1 + 1, 0, none⟩ = false ∧ W.frozen? ⟨b + 1 + 1 + 1, 0, none⟩ = false :=
  ⟨cell_of_row W b 0 _ _ _ h.chart, cell_of_row W (b + 1) 0 _ _ _ h.plan, cell_of_row W (b + 1) 1 _ _ _ h.plan, cell_of_row W (b + 1) 2 _ _ _ h.plan, cell_of_row W (b + 1 + 1) 0 _ _ _ h.str, cell_of_row W (b + 1 + 1 + 1) 0 _ _ _ h.err, by simp [World.frozen?, h.str], by simp [World.frozen?, h.err]⟩
theorem nop_normal {Q : Exit → Act → World → Prop} {a : Act} {w : World} (h : Q .normal a w) : NoP Q .normal a w := h
def PressQ (Q : List Ent → List Int → Prop) (L : List Itm) (w : World) (x : Ending) (w' : World) : Prop :=
  ∃ s R T a e c lo hi, x = .returned (.tuple #[.string s, .int .i64 0]) ∧ Q R T ∧ (0 ≤ lo ∧ lo ≤ hi ∧ hi ≤ 26) ∧ (0 ≤ a ∧ a < 18446744073709551616) ∧ (0 ≤ e ∧ e < 18446744073709551616) ∧ (0 ≤ c ∧ c < 18446744073709551616) ∧
    Vi.nums s = Hd.bytes (Ly.secs (strOfNums (Dr.enc R)) ⟨#[123, 125]⟩ (strOfNums T) (strOfNums (Pl.text (Mg.rows L).1))) a e c lo hi ++ (Vi.nums (strOfNums (Dr.enc R)) ++ (Vi.nums ⟨#[123, 125]⟩ ++ (Vi.nums (strOfNums T) ++ Vi.nums (strOfNums (Pl.text (Mg.rows L).1))))) ∧ Below w.heap.size w w'
set_option maxRecDepth 100000 in
set_option maxHeartbeats 4000000 in
theorem press_any (Q : List Ent → List Int → Prop) (A : Option Addr) (n cap : Nat) (L : List Itm) (B : Nat) (w : World) (hr : Reads w B 2 A n (icells L)) (hn : n = L.length) (hs : It.ok L) (hB : B ≤ w.heap.size) (hm : n ≤ 60) (hb : It.sum L ≤ 3000)
    (hQ : ∀ R T, Q R T → Lv.Cut (Mg.rows L).2 512 R T) (hsp : ∀ A cap B w, Reads w B 4 A (Mg.rows L).2.length (ecells (Mg.rows L).2) → (Mg.rows L).2.length ≤ cap → B ≤ w.heap.size → Calls Tryz.prog 19 #[.slice A (Mg.rows L).2.length cap, .int .i64 512] w (SplitQ Q w)) :
    Calls Tryz.prog 7 #[.agg #[.slice A n cap], .agg #[.int .i64 512, .int .u8 0, .string ⟨#[123, 125]⟩]] w (PressQ Q L w) := by
  have hmf : ∀ (fn : Fn) (first cap : Array Value) (w : World), (Instr.makeFunc fn first cap).run Tryz.prog w = .ok (.func fn first cap) w := fun _ _ _ _ => rfl
  have hinv := Mg.whole hs (by omega) (by omega)
  have hfine := Mg.inv_fine hinv
  have hfits := Mg.inv_fits hinv
  have hlen := hinv.len
  have htot : Pl.tot (Mg.rows L).1 ≤ 3000 := by have := hinv.tot; omega
  have HMR := Lib.hid (fun w' (h : Reads w' B 2 A n (icells L)) (h' : B ≤ w'.heap.size) => mrows_any A n cap L B w' h hn hs h' hm hb)
  have HHD := Lib.hid (fun A' m cap' E w' (h : Reads w' B 2 A n (icells L)) (h' : B ≤ w'.heap.size) (k : Reads w' w'.heap.size 4 A' m (ecells E)) (k' : m = E.length) (k2 : En.fits E) (k3 : m ≤ 60) => head_any A A' n cap m cap' w'.heap.size L E w' (h.more h') hn hs (Nat.le_refl _) hm k k' k2 k3)
  have hn60 : L.length ≤ 60 := by omega
  have HR := Lib.hid hr
  obtain ⟨E, hE⟩ : ∃ E, E = (Mg.rows L).2 := ⟨_, rfl⟩
  rw [← hE] at hfine hfits hlen hsp hQ
  have HE := Lib.hid hE
  have HQ := Lib.hid hQ
  have HSP := Lib.hid hsp
  have HFF := Lib.hid (And.intro hfine hfits)
  have HTOT := Lib.hid htot
  clear hr hn hs hb hQ hsp hinv hE hfine hfits htot
  have P0 : Pr ((((w.alloc (.cells #[.slice A n cap] 27)).alloc (.cells #[.int .i64 512, .int .u8 0, .string ⟨#[123, 125]⟩] 34)).alloc (.cells #[.string ⟨#[]⟩] 9)).alloc (.cells #[.int .i64 0] 30)) w.heap.size A n cap ⟨#[]⟩ :=
    ⟨blk_alloc (blk_alloc (blk_alloc (heap_alloc_new w _) _) _) _, blk_alloc (blk_alloc (heap_at (by simp)) _) _, blk_alloc (heap_at (by simp)) _, heap_at (by simp)⟩
  have B0 : Below w.heap.size w ((((w.alloc (.cells #[.slice A n cap] 27)).alloc (.cells #[.int .i64 512, .int .u8 0, .string ⟨#[123, 125]⟩] 34)).alloc (.cells #[.string ⟨#[]⟩] 9)).alloc (.cells #[.int .i64 0] 30)) := (by repeat (first | with_reducible exact Below.refl _ _ | with_reducible assumption | with_reducible refine Below.setCell ?_ (by first | (simp; done) | (simp; omega) | omega) _ | with_reducible refine Below.alloc ?_ (by first | exact Nat.le_refl _ | (simp; done) | (simp; omega) | omega) _ | with_reducible refine Below.drew ?_))
  go_enter_defers Tryz.func7, Tryz.ntmps7
  go_wp2_with fail
  refine (pcheck_0 _).mono ?_; rintro e w1 ⟨rfl, hb1⟩
  have P1 := P0.keep hb1
  have HP1 := Lib.hid P1.set
  have hz1 : w.heap.size + 1 + 1 + 1 < w1.heap.size := blk_lt P1.err
  have HB1 : Hid (Below w.heap.size w (w1.setCell ⟨w.heap.size + 1 + 1 + 1, 0, none⟩ (.int .i64 0))) := Lib.hid ((B0.trans (hb1.mono (by simp; omega))).setCell (by simp <;> omega) _)
  obtain ⟨c0, p0, p1, p2, s0, e0, f2, f3⟩ := P1.cells
  clear P0 B0 P1 hb1
  go_wp2_with fail
  obtain ⟨W1, hW1⟩ : ∃ W1, W1 = w1.setCell ⟨w.heap.size + 1 + 1 + 1, 0, none⟩ (.int .i64 0) := ⟨_, rfl⟩
  rw [← hW1] at HP1 HB1 ⊢
  have hz1' : w1.heap.size = W1.heap.size := by rw [hW1]; simp
  clear hW1 c0 p0 p1 p2 s0 e0 f2 f3
  refine (HMR.out W1 (HR.out.below (HB1.out.mono hB)) (by omega)).mono ?_; rintro e w2 ⟨v2, rfl, hO2, hb2⟩
  rw [← HE.out] at hO2
  obtain ⟨A2, k2, rfl, hk2⟩ := own_slice hO2
  have HO2 := Lib.hid hO2
  have P2 := HP1.out.keep hb2
  have HP2 := Lib.hid P2
  have HB2 := Lib.hid (bthen HB1.out hb2)
  have hz2 := hb2.size
  obtain ⟨c0, p0, p1, p2, s0, e0, f2, f3⟩ := P2.cells
  have HTX : Hid (∃ t, t = strOfNums (Pl.text (Mg.rows L).1)) := Lib.hid ⟨_, rfl⟩
  obtain ⟨t3, ht3⟩ := HTX.out
  rw [← ht3]
  have HT3 := Lib.hid ht3
  have ht3s : t3.size ≤ 3000 := by rw [ht3, strOfNums_size, Pl.text_len]; exact HTOT.out
  clear hO2 hb2 P2 ht3 HTX
  go_wp2_with fail
  refine (HSP.out A2 k2 w2.heap.size w2 (Reads.of_own HO2.out) hk2 (Nat.le_refl _)).mono ?_; rintro e w3 ⟨R, T, v3, sz, rfl, hQ3, hO3, hb3⟩
  have hcut := HQ.out R T hQ3
  have hroot := Lv.cut_root hcut
  obtain ⟨hR, hRf, hRl⟩ := Lv.cut_fine hcut HFF.out.1 HFF.out.2 (by omega)
  have htl := Lv.cut_text hcut (by omega)
  obtain ⟨A3, k3, rfl, _⟩ := own_slice hO3
  have P3 := HP2.out.keep hb3
  have HP3 := Lib.hid P3.set
  have HO3 := Lib.hid (ownsRow_setCell hO3 (p := ⟨w.heap.size + 1 + 1 + 1, 0, none⟩) (show w.heap.size + 1 + 1 + 1 < w2.heap.size by omega) (.int .i64 0))
  have HO23 := Lib.hid (ownsRow_setCell (ownsRow_keep HO2.out hb3) (p := ⟨w.heap.size + 1 + 1 + 1, 0, none⟩) (show w.heap.size + 1 + 1 + 1 < W1.heap.size by omega) (.int .i64 0))
  have HB3 : Hid (Below w.heap.size w (w3.setCell ⟨w.heap.size + 1 + 1 + 1, 0, none⟩ (.int .i64 0))) := Lib.hid ((bthen HB2.out hb3).setCell (by simp <;> omega) _)
  have hz3 := hb3.size
  have HQ3 := Lib.hid hQ3
  have HRR := Lib.hid (And.intro hR hRf)
  obtain ⟨t2, ht2⟩ : ∃ t2, t2 = strOfNums T := ⟨_, rfl⟩
  rw [← ht2]
  have HT2 := Lib.hid ht2
  have ht2s : t2.size ≤ 3000 := by rw [ht2, strOfNums_size]; exact htl
  clear c0 p0 p1 p2 s0 e0 f2 f3
  obtain ⟨c0, p0, p1, p2, s0, e0, f2, f3⟩ := P3.cells
  clear hO3 hb3 P3 ht2 htl hcut hR hRf hQ3
  go_wp2_with fail
  obtain ⟨W3, hW3⟩ : ∃ W3, W3 = w3.setCell ⟨w.heap.size + 1 + 1 + 1, 0, none⟩ (.int .i64 0) := ⟨_, rfl⟩
  rw [← hW3] at HP3 HB3 HO3 HO23 ⊢
  have hz3' : w3.heap.size = W3.heap.size := by rw [hW3]; simp
  clear hW3 c0 p0 p1 p2 s0 e0 f2 f3
  refine (denc_any A3 k3 R W3.heap.size W3 HRR.out.1 HRR.out.2 (by omega) (by omega) (Reads.of_own HO3.out) (Nat.le_refl _)).mono ?_; rintro e w4 ⟨rfl, hb4⟩
  have P4 := HP3.out.keep hb4
  have HP4 := Lib.hid P4.set
  have HO4 := Lib.hid (ownsRow_setCell (ownsRow_keep HO23.out hb4) (p := ⟨w.heap.size + 1 + 1 + 1, 0, none⟩) (show w.heap.size + 1 + 1 + 1 < W1.heap.size by omega) (.int .i64 0))
  have HB4 : Hid (Below w.heap.size w (w4.setCell ⟨w.heap.size + 1 + 1 + 1, 0, none⟩ (.int .i64 0))) := Lib.hid ((bthen HB3.out hb4).setCell (by simp <;> omega) _)
  have hz4 := hb4.size
  obtain ⟨t0, ht0⟩ : ∃ t0, t0 = strOfNums (Dr.enc R) := ⟨_, rfl⟩
  rw [← ht0]
  have HT0 := Lib.hid ht0
  have ht0s : t0.size ≤ 512 := by rw [ht0, strOfNums_size]; exact hroot
  obtain ⟨c0, p0, p1, p2, s0, e0, f2, f3⟩ := P4.cells
  clear hb4 P4 ht0
  go_wp2_with fail
  obtain ⟨W4, hW4⟩ : ∃ W4, W4 = w4.setCell ⟨w.heap.size + 1 + 1 + 1, 0, none⟩ (.int .i64 0) := ⟨_, rfl⟩
  rw [← hW4] at HP4 HB4 HO4 ⊢
  have hz4' : w4.heap.size = W4.heap.size := by rw [hW4]; simp
  clear hW4 c0 p0 p1 p2 s0 e0 f2 f3
  obtain ⟨c0, p0, p1, p2, s0, e0, f2, f3⟩ := HP4.out.cells
  clear p0 s0 e0 f2 f3
  have hbw4 := HB4.out.size
  have hcon := En.con_bd E
  refine wp_nop ?_
  refine wp_region_held_drew (S := (fun w' => w'.cell? ⟨w.heap.size, 0, none⟩ = some (.slice A n cap) ∧ w'.cell? ⟨w.heap.size + 1, 1, none⟩ = some (.int .u8 0) ∧ w'.cell? ⟨w.heap.size + 1, 2, none⟩ = some (.string ⟨#[123, 125]⟩))) (by kernel_rfl) (by (try dsimp only); exact ⟨c0, p1, p2⟩) (fun hHeld => ?_)
  simp only [List.size_toArray, List.length_cons, List.length_nil, Nat.zero_add, Nat.reduceAdd]
  refine held_take (i := 0) (v := ?_) rfl (by kernel_rfl) (by kernel_rfl) (by kernel_rfl) (fun _ _ _ h => h) (by rfl) ?_ (by assumption) ?_
  rotate_left
  · intro w hSw
    (try dsimp only at hSw)
    go_simp
    try with_reducible rfl
  try simp only [Act.put, List.setIfInBounds_toArray, List.set_cons_zero, List.set_cons_succ]
  refine held_take (i := 1) (v := ?_) rfl (by kernel_rfl) (by kernel_rfl) (by kernel_rfl) (fun _ _ _ h => h) (by rfl) ?_ (by assumption) ?_
  rotate_left
  · intro w hSw
    (try dsimp only at hSw)
    go_simp
    try with_reducible rfl
  try simp only [Act.put, List.setIfInBounds_toArray, List.set_cons_zero, List.set_cons_succ]
  refine held_take (i := 2) (v := ?_) rfl (by kernel_rfl) (by kernel_rfl) (by kernel_rfl) (fun _ _ _ h => h) (by rfl) ?_ (by assumption) ?_
  rotate_left
  · intro w hSw
    (try dsimp only at hSw)
    go_simp
    try with_reducible rfl
  try simp only [Act.put, List.setIfInBounds_toArray, List.set_cons_zero, List.set_cons_succ]
  refine held_take (i := 3) (v := ?_) rfl (by kernel_rfl) (by kernel_rfl) (by kernel_rfl) (fun _ _ _ h => h) (by rfl) ?_ (by assumption) ?_
  rotate_left
  · intro w hSw
    (try dsimp only at hSw)
    go_simp
    try with_reducible rfl
  try simp only [Act.put, List.setIfInBounds_toArray, List.set_cons_zero, List.set_cons_succ]
  refine held_take (i := 5) (v := ?_) rfl (by kernel_rfl) (by kernel_rfl) (by kernel_rfl) (fun _ _ _ h => h) (by rfl) ?_ (by assumption) ?_
  rotate_left
  · intro w hSw
    (try dsimp only at hSw)
    go_simp
    try with_reducible rfl
  try simp only [Act.put, List.setIfInBounds_toArray, List.set_cons_zero, List.set_cons_succ]
  refine held_take (i := 6) (v := ?_) rfl (by kernel_rfl) (by kernel_rfl) (by kernel_rfl) (fun _ _ _ h => h) (by rfl) ?_ (by assumption) ?_
  rotate_left
  · intro w hSw
    (try dsimp only at hSw)
    go_simp
    try with_reducible rfl
  try simp only [Act.put, List.setIfInBounds_toArray, List.set_cons_zero, List.set_cons_succ]
  refine held_take (i := 7) (v := ?_) rfl (by kernel_rfl) (by kernel_rfl) (by kernel_rfl) (fun _ _ _ h => h) (by rfl) ?_ (by assumption) ?_
  rotate_left
  · intro w hSw
    (try dsimp only at hSw)
    go_simp
    try with_reducible rfl
  try simp only [Act.put, List.setIfInBounds_toArray, List.set_cons_zero, List.set_cons_succ]
  refine held_take (i := 8) (v := ?_) rfl (by kernel_rfl) (by kernel_rfl) (by kernel_rfl) (fun _ _ _ h => h) (by rfl) ?_ (by assumption) ?_
  rotate_left
  · intro w hSw
    (try dsimp only at hSw)
    go_simp
    try with_reducible rfl
  try simp only [Act.put, List.setIfInBounds_toArray, List.set_cons_zero, List.set_cons_succ]
  refine held_take (i := 9) (v := ?_) rfl (by kernel_rfl) (by kernel_rfl) (by kernel_rfl) (fun _ _ _ h => h) (by rfl) ?_ (by assumption) ?_
  rotate_left
  · intro w hSw
    (try dsimp only at hSw)
    go_simp
    try with_reducible rfl
  try simp only [Act.put, List.setIfInBounds_toArray, List.set_cons_zero, List.set_cons_succ]
  refine held_take (i := 10) (v := ?_) rfl (by kernel_rfl) (by kernel_rfl) (by kernel_rfl) (fun _ _ _ h => h) (by rfl) ?_ (by assumption) ?_
  rotate_left
  · intro w hSw
    (try dsimp only at hSw)
    go_simp
    try with_reducible rfl
  try simp only [Act.put, List.setIfInBounds_toArray, List.set_cons_zero, List.set_cons_succ]
  refine held_call (i := 4) (by kernel_rfl) rfl (fun K hK => ?_)
  go_simp
  refine (HHD.out A2 E.length k2 E W4.drew (HR.out.below ((Below.drew HB4.out).mono hB)) (by show B ≤ W4.heap.size; omega) (Reads.of_own HO4.out.drew) rfl HFF.out.2 (by omega)).mono ?_
  rintro x w5 ⟨lo, hi, rfl, q0, q1, q2, hb5⟩
  have HP5 := Lib.hid (HP4.out.drew.keep hb5)
  have HB5 := Lib.hid (bthen (Below.drew HB4.out) hb5)
  clear c0 p1 p2 hb5
  obtain ⟨c0, p0, p1, p2, s0, e0, f2, f3⟩ := HP5.out.cells
  clear p0 s0 e0 f2 f3
  refine hK.out _ _ (by (try dsimp only); exact ⟨c0, p1, p2⟩) (fun hHeld => ?_)
  clear hK K
  try simp only [Act.put, List.setIfInBounds_toArray, List.set_cons_zero, List.set_cons_succ]
  refine held_call (i := 11) (by kernel_rfl) rfl (fun K hK => ?_)
  go_simp
  refine (glue_any t0 ⟨#[123, 125]⟩ t2 t3 (n : Int) (E.length : Int) (En.con E) lo hi (by omega) (by decide) (by omega) (by omega) q0 q1 q2 (by omega) (by omega) (by omega) w5).mono ?_
  rintro x w6 ⟨s, rfl, hn6, hb6⟩
  have HP6 := Lib.hid (HP5.out.keep hb6)
  have HB6 := Lib.hid (bthen HB5.out hb6)
  have HN6 := Lib.hid hn6
  clear c0 p1 p2 hb6 hn6
  obtain ⟨c0, p0, p1, p2, s0, e0, f2, f3⟩ := HP6.out.cells
  clear p0
  refine hK.out _ _ (by (try dsimp only); exact ⟨c0, p1, p2⟩) (fun hHeld => ?_)
  clear hK K
  try simp only [Act.put, List.setIfInBounds_toArray, List.set_cons_zero, List.set_cons_succ]
  refine held_take (i := 12) (v := ?_) rfl (by kernel_rfl) (by kernel_rfl) (by kernel_rfl) (fun _ _ _ h => h) (by rfl) ?_ (by assumption) ?_
  rotate_left
  · intro w hSw
    (try dsimp only at hSw)
    go_simp
    try with_reducible rfl
  try simp only [Act.put, List.setIfInBounds_toArray, List.set_cons_zero, List.set_cons_succ]
  refine held_take (i := 13) (v := ?_) rfl (by kernel_rfl) (by kernel_rfl) (by kernel_rfl) (fun _ _ _ h => h) (by rfl) ?_ (by assumption) ?_
  rotate_left
  · intro w hSw
    (try dsimp only at hSw)
    go_simp
    try with_reducible rfl
  try simp only [Act.put, List.setIfInBounds_toArray, List.set_cons_zero, List.set_cons_succ]
  have HP7 := Lib.hid (HP6.out.put s)
  have HP8 := Lib.hid HP7.out.set
  refine held_call (i := 14) (by kernel_rfl) rfl (fun K hK => ?_)
  go_simp
  skip
  refine hK.out _ _ (by (try dsimp only); obtain ⟨x0, _, x1, x2, _⟩ := HP7.out.cells; exact ⟨x0, x1, x2⟩) (fun hHeld => ?_)
  clear hK K
  try simp only [Act.put, List.setIfInBounds_toArray, List.set_cons_zero, List.set_cons_succ]
  refine held_call (i := 15) (by kernel_rfl) rfl (fun K hK => ?_)
  go_simp
  skip
  refine hK.out _ _ (by (try dsimp only); obtain ⟨x0, _, x1, x2, _⟩ := HP8.out.cells; exact ⟨x0, x1, x2⟩) (fun hHeld => ?_)
  clear hK K
  try simp only [Act.put, List.setIfInBounds_toArray, List.set_cons_zero, List.set_cons_succ]
  clear c0 p1 p2 s0 e0 f2 f3
  obtain ⟨_, _, _, _, s0, e0, _, _⟩ := HP8.out.cells
  refine wpAnyH_done (by kernel_rfl) ?_ _
  refine nop_normal ?_
  go_wp2_with fail
  refine leaves_cons (f := 16) (args := #[.pointer (some ⟨w.heap.size + 1 + 1 + 1, 0, none⟩), .pointer (some ⟨w.heap.size + 1 + 1, 0, none⟩)]) (by simp) (by simp [go_sem]) ?_
  refine (blank_e _ _ _ _ e0).mono ?_
  rintro e u' w'' ⟨rfl, rfl, rfl⟩
  refine ⟨.tuple #[.string s, .int .i64 0], by simp [results, Tryz.results7, go_sem, s0, e0], ?_⟩
  have hn6 := HN6.out
  rw [HT0.out, HT2.out, HT3.out] at hn6
  exact ⟨s, R, T, (n : Int), (E.length : Int), En.con E, lo, hi, rfl, HQ3.out, ⟨q0, q1, q2⟩, by omega, by omega, by omega, hn6, ((HB6.out.setCell (by simp <;> omega) _).setCell (by simp <;> omega) _)⟩
end Go.Proofs.YtlfahmdndlmhpaaGreatDoor
namespace Go.Proofs.YtlfahmdndlmhpaaGreatDoor
open Go.RowKit Go.Shelf

/-- what is pressed: naive's Rows read it as the chart's entries and contents -/
def PrPost (z : Nat → Prop) (L : List Itm) (w : World) (x : Ending) (w' : World) : Prop :=
  ∃ s, x = .returned (.tuple #[.string s, .int .i64 0]) ∧ (∀ W, Calls Tryz.prog 8 #[.string s] W (NrPost (Mg.rows L).2 (strOfNums (Pl.text (Mg.rows L).1)) W)) ∧ z s.size ∧ Below w.heap.size w w'
theorem pressq_read {Q : List Ent → List Int → Prop} {z : Nat → Prop} {L : List Itm} {w w' : World} {x : Ending} (hs : It.ok L) (hl : L.length ≤ 60) (hb : It.sum L ≤ 3000) (hQ : ∀ R T, Q R T → Lv.Cut (Mg.rows L).2 512 R T)
    (hz : ∀ R T, Q R T → z (127 + ((Dr.enc R).length + (2 + (T.length + (Pl.text (Mg.rows L).1).length))))) (h : PressQ Q L w x w') : PrPost z L w x w' := by
  obtain ⟨s, R, T, a, e, c, lo, hi, rfl, q, ⟨h0, h1, h2⟩, ha, he, hc, hn, hw⟩ := h
  have hinv := Mg.whole hs (by omega) (by omega)
  have hlen := hinv.len
  have htot := hinv.tot
  refine ⟨s, rfl, fun W => nrows_any s _ _ _ _ a e c lo hi R (Mg.rows L).2 T 512 (hQ R T q) (by omega) (Mg.inv_fine hinv) (Mg.inv_fits hinv) (by omega) (Mg.inv_run hinv) rfl rfl (by decide) (by rw [strOfNums_size, Pl.text_len]; omega) h0 h1 h2 ha he hc hn W, ?_, hw⟩
  have hk := congrArg List.length hn
  rw [List.length_append, List.length_append, List.length_append, List.length_append, Vi.nums_len, Vi.nums_len, Vi.nums_len, Vi.nums_len, Vi.nums_len, Hd.bytes_len rfl, strOfNums_size, strOfNums_size, strOfNums_size] at hk
  rw [hk]
  exact hz R T q
theorem press_read (A : Option Addr) (n cap : Nat) (L : List Itm) (B : Nat) (w : World) (hr : Reads w B 2 A n (icells L)) (hn : n = L.length) (hs : It.ok L) (hB : B ≤ w.heap.size) (hm : n ≤ 60) (hb : It.sum L ≤ 3000) :
    Calls Tryz.prog 7 #[.agg #[.slice A n cap], .agg #[.int .i64 512, .int .u8 0, .string ⟨#[123, 125]⟩]] w (PrPost (fun _ => True) L w) := by
  have hl : L.length ≤ 60 := by omega
  have hinv := Mg.whole hs (by omega) (by omega)
  have hlen := hinv.len
  exact (press_any (Lv.Cut (Mg.rows L).2 512) A n cap L B w hr hn hs hB hm hb (fun _ _ q => q) (fun A cap B w h hc h' => split_any A cap (Mg.rows L).2 B 512 w (Mg.inv_fine hinv) (Mg.inv_fits hinv) (by omega) (Mg.inv_run hinv) (by omega) hc h h')).mono fun _ _ h => pressq_read hs hl hb (fun _ _ q => q) (fun _ _ _ => trivial) h
theorem one_rows : Mg.rows [It.x] = ([⟨#[120]⟩], one) := by rfl
theorem one_ok : It.ok [It.x] := ⟨fun i j hi hj h => by simp at hi hj; omega, fun e he => by
  rw [List.mem_singleton] at he
  subst he
  exact ⟨⟨by decide, by decide⟩, by decide, by decide⟩⟩
theorem one_enc : (Dr.enc one).length = 5 := by decide +kernel
theorem one_text : Pl.text [(⟨#[120]⟩ : ByteArray)] = [120] := by rfl
theorem press_one (A : Option Addr) (cap B : Nat) (w : World) (hr : Reads w B 2 A 1 (icells [It.x])) (hB : B ≤ w.heap.size) :
    Calls Tryz.prog 7 #[.agg #[.slice A 1 cap], .agg #[.int .i64 512, .int .u8 0, .string ⟨#[123, 125]⟩]] w (PrPost (fun n => n = 135) [It.x] w) := by
  have hinv := Mg.whole one_ok (by decide) (by decide)
  have hfine := Mg.inv_fine hinv
  have hfits := Mg.inv_fits hinv
  have hrun := Mg.inv_run hinv
  have hq : ∀ R T, R = one ∧ T = [] → Lv.Cut (Mg.rows [It.x]).2 512 R T := by
    rintro _ _ ⟨rfl, rfl⟩
    rw [one_rows]
    exact Lv.Cut.whole (by rw [one_enc]; omega)
  rw [one_rows] at hfine hfits hrun
  refine (press_any (fun R T => R = one ∧ T = []) A 1 cap [It.x] B w hr rfl one_ok hB (by omega) (by decide) hq (fun A cap B w h hc h' => ?_)).mono fun _ _ h => pressq_read one_ok (by decide) (by decide) hq ?_ h
  · rw [one_rows] at h hc ⊢
    exact split_whole A cap one B 512 w hfine hfits (by decide) hrun (by omega) (by rw [one_enc]; omega) h h'
  · rintro _ _ ⟨rfl, rfl⟩
    rw [one_rows, one_text, one_enc]
    rfl
end Go.Proofs.YtlfahmdndlmhpaaGreatDoor
namespace Go.Proofs.YtlfahmdndlmhpaaGreatDoor
open Go.RowKit Go.Shelf

set_option maxRecDepth 100000 in
set_option maxHeartbeats 2000000 in
theorem awake_any (w : World) : Calls Tryz.prog 5 #[] w fun e w' => e = .returned (.bool true) ∧ Below w.heap.size w w' := by
  go_enter Tryz.func5, Tryz.ntmps5
  go_wp2_with fail
  refine (of_one w.heap.size 0 1 _ (by simp) (cell_of_row _ w.heap.size 0 _ _ _ (heap_alloc_new w _)) (cell_of_row _ w.heap.size 1 _ _ _ (heap_alloc_new w _))).mono ?_; rintro e w1 ⟨g, c, rfl, hO1, hb1⟩
  have hW1 : Below w.heap.size w w1 := (blk_new w _).trans (hb1.mono (by simp))
  have HO1 := Lib.hid (hO1.alloc (.cells #[.slice (some ⟨g, 0, none⟩) 1 c] 27))
  have HC1 := Lib.hid (heap_alloc_new w1 (.cells #[.slice (some ⟨g, 0, none⟩) 1 c] 27))
  have HW1 := Lib.hid (hW1.alloc hW1.size (.cells #[.slice (some ⟨g, 0, none⟩) 1 c] 27))
  have hz0 := hW1.size
  clear hO1 hb1 hW1
  go_wp2_with fail
  refine (press_one (some ⟨g, 0, none⟩) c _ _ (Reads.of_own HO1.out) (Nat.le_refl _)).mono ?_; rintro e w2 ⟨s, rfl, hN, hs, hb2⟩
  have HO2 := Lib.hid (ownsRow_keep HO1.out hb2)
  have hC2 := blk_keep2 hb2 HC1.out
  have HW2 := Lib.hid (bthen HW1.out hb2)
  have HN : Hid (∀ W, Calls Tryz.prog 8 #[.string s] W (NrPost one ⟨#[120]⟩ W)) := Lib.hid (by rw [one_rows, one_text] at hN; exact hN)
  have HC2 := Lib.hid hC2
  have hz2 := blk_lt hC2
  clear hN hb2 hC2
  go_wp2_with fail
  refine (nread_one s w2 HN.out).mono ?_; rintro e w3 ⟨g3, c3, rfl, hO3, hb3⟩
  have hO1' := ownsRow_keep HO2.out hb3
  have hC3 := blk_keep2 hb3 HC2.out
  have HC3 := Lib.hid (heap_alloc_new w3 (.cells #[.slice (some ⟨g3, 0, none⟩) 1 c3] 27))
  have HW3 := Lib.hid ((bthen HW2.out hb3).alloc (bthen HW2.out hb3).size (.cells #[.slice (some ⟨g3, 0, none⟩) 1 c3] 27))
  obtain ⟨a0, a1⟩ := (Reads.of_own (size := 2) hO1').itm (L := [It.x]) rfl 0 (by decide)
  obtain ⟨b0, b1⟩ := (Reads.of_own (size := 2) hO3).itm (L := [It.x]) rfl 0 (by decide)
  have HS := Lib.hid (same_one g g3 0 0 c c3 _ (cell_al a0 (.cells #[.slice (some ⟨g3, 0, none⟩) 1 c3] 27)) (cell_al a1 (.cells #[.slice (some ⟨g3, 0, none⟩) 1 c3] 27)) (cell_al b0 (.cells #[.slice (some ⟨g3, 0, none⟩) 1 c3] 27)) (cell_al b1 (.cells #[.slice (some ⟨g3, 0, none⟩) 1 c3] 27)))
  have x0 := cell_of_row w3 w1.heap.size 0 _ _ _ hC3
  have hz3 := blk_lt hC3
  clear hO1' hC3 hO3 hb3 a0 a1 b0 b1
  go_wp2_with fail
  refine HS.out.mono ?_; rintro e w4 ⟨rfl, hb4⟩
  have hw4 := bthen HW3.out hb4
  clear hb4
  go_wp2_with fail
  go_ret
  exact ⟨rfl, hw4⟩
end Go.Proofs.YtlfahmdndlmhpaaGreatDoor
