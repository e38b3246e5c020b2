/- The tiles of a row rise, are found as what tells of them, and are as many as the runs: plain. -/
import Derived.Test.YtppciejcobmikaaSeekTs
namespace Go.Proofs.Ytppciejcobmikaa
open Go.RowKit

theorem Sk.la_of {e : Ent} (h : En.c e = 0) : En.l e = e.1 + En.wd e.2.2.2 - 1 := by
  unfold En.l En.la
  unfold En.c at h
  rw [if_pos h]
theorem Sk.wd_pos {r : Int} (h : 0 < r) : En.wd r = r := by unfold En.wd; rw [if_neg (by omega)]
theorem Sk.ts_cons (e : Ent) (M : List Ent) : Sk.ts (e :: M) = Sk.one e ++ Sk.ts M := by simp [Sk.ts]
theorem Sk.one_mem {e : Ent} {x : Int × Ent} (h : x ∈ Sk.one e) : e.1 ≤ x.1 ∧ x.1 < e.1 + e.2.2.2 ∧ 0 < e.2.2.2 := by
  unfold Sk.one at h
  obtain ⟨k, hk, rfl⟩ := List.mem_map.1 h
  have hk := List.mem_range.1 hk
  refine ⟨?_, ?_, ?_⟩ <;> (try dsimp only) <;> omega
theorem Sk.one_rise (e : Ent) : ((Sk.one e).map Prod.fst).Pairwise (· < ·) := by
  unfold Sk.one
  rw [List.map_map, List.pairwise_map]
  refine (List.pairwise_lt_range (n := e.2.2.2.toNat)).imp ?_
  intro a b h
  simp only [Function.comp]
  omega
theorem Sk.ts_rise (M : List Ent) : ∀ f : Int, En.fits M → En.rowFrom f M = 0 → (∀ x ∈ Sk.ts M, f ≤ x.1) ∧ ((Sk.ts M).map Prod.fst).Pairwise (· < ·) := by
  induction M with
  | nil => intro f _ _; simp [Sk.ts]
  | cons e M ih =>
    intro f hf h
    obtain ⟨h1, h2, h3⟩ := En.rowFrom_zero h
    have hge := En.l_ge (hf e (by simp)) h1
    obtain ⟨i1, i2⟩ := ih _ (fun x hx => hf x (List.mem_cons_of_mem _ hx)) h3
    rw [Sk.ts_cons]
    refine ⟨fun x hx => ?_, ?_⟩
    · rcases List.mem_append.1 hx with hx | hx
      · have := (Sk.one_mem hx).1; omega
      · have := i1 x hx; omega
    · rw [List.map_append, List.pairwise_append]
      refine ⟨Sk.one_rise e, i2, fun a ha b hb => ?_⟩
      obtain ⟨x, hx, rfl⟩ := List.mem_map.1 ha
      obtain ⟨y, hy, rfl⟩ := List.mem_map.1 hb
      have h4 := i1 y hy
      obtain ⟨_, h5, h6⟩ := Sk.one_mem hx
      rw [Sk.la_of h1, Sk.wd_pos h6] at h4
      omega
theorem Sk.ts_len (M : List Ent) : ∀ (f s : Int), En.fits M → En.rowFrom f M = 0 → M.foldl En.addC s = s + ((Sk.ts M).length : Int) := by
  induction M with
  | nil => intro f s _ _; simp [Sk.ts]
  | cons e M ih =>
    intro f s hf h
    obtain ⟨h1, h2, h3⟩ := En.rowFrom_zero h
    obtain ⟨_, _, _, r0, _⟩ := hf e (by simp)
    rw [List.foldl_cons, ih _ _ (fun x hx => hf x (List.mem_cons_of_mem _ hx)) h3, Sk.ts_cons, List.length_append, Sk.one_len]
    unfold En.addC
    rw [if_pos h1]
    omega
def Sk.all (L : List Ent) : Int := if En.row L = 0 then En.cnt L else 0
theorem Sk.all_len {L : List Ent} (hf : En.fits L) : ((Sk.ts (Sk.own L)).length : Int) = Sk.all L := by
  unfold Sk.all Sk.own
  by_cases h : En.row L = 0
  · rw [if_pos h, if_pos h, En.cnt, Sk.ts_len L 0 0 hf (En.row_from h)]; omega
  · rw [if_neg h, if_neg h]; rfl
theorem Sk.own_fits {L : List Ent} (hf : En.fits L) : En.fits (Sk.own L) := by
  unfold Sk.own; split
  · exact hf
  · intro e he; simp at he
theorem Sk.own_sum {L : List Ent} (hf : En.fits L) : ∀ e ∈ Sk.own L, e.1 + e.2.2.2 < 18446744073709551616 := by
  intro e he
  obtain ⟨⟨_, h1⟩, _, _, r0, r1⟩ := Sk.own_fits hf e he
  unfold Sk.own at he
  split at he
  · rename_i hr
    obtain ⟨k, hk, rfl⟩ := List.mem_iff_getElem.1 he
    have hc := En.rowFrom_at L 0 k hk (En.row_from hr)
    have h2 := En.ck_in (by exact hc)
    have h3 := (En.wd_bd r0).1
    unfold En.wd at h2
    split at h2 <;> omega
  · simp at he
theorem Sk.ts_found {L : List Ent} (hf : En.fits L) {x : Int × Ent} (h : x ∈ Sk.ts (Sk.own L)) : Sk.is L x.1 = true ∧ Sk.f L x.1 = x.2 ∧ 0 < x.2.2.2.2 ∧ 0 ≤ x.1 ∧ x.1 < 18446744073709551616 := by
  obtain ⟨h1, h2, h3, h4⟩ := Sk.ts_mem h
  have hs := Sk.own_sum hf _ h1
  have hr : En.row L = 0 := by
    by_cases e : En.row L = 0
    · exact e
    · unfold Sk.own at h1; rw [if_neg e] at h1; simp at h1
  have hm : x.2 ∈ L := by unfold Sk.own at h1; rwa [if_pos hr] at h1
  obtain ⟨k, hk, he⟩ := List.mem_iff_getElem.1 hm
  have hc := En.rowFrom_at L 0 k hk (En.row_from hr)
  obtain ⟨⟨i0, _⟩, _⟩ := hf _ hm
  have hh : En.h x.1 (Sk.g L k) = true := by
    rw [Sk.g_eq hk, he]
    rw [he] at hc
    have hl := Sk.la_of hc
    rw [Sk.wd_pos h2] at hl
    unfold En.h En.hs
    rw [decide_eq_true_eq]
    exact ⟨hc, h2, h3, by unfold En.l at hl; omega⟩
  obtain ⟨a, b⟩ := Sk.has_found hf hr k hk hh
  rw [Sk.g_eq hk, he] at b
  exact ⟨a, b, h2, by omega, by omega⟩

def Sk.Rising {M : List Ent} (pre : List (Sk.T M)) : Prop := (pre.map (fun x => x.1.1)).Pairwise (· < ·)
def Sk.last {M : List Ent} (pre : List (Sk.T M)) : Int := match pre.getLast? with | none => 0 | some x => x.1.1
theorem Sk.last_snoc {M : List Ent} (pre : List (Sk.T M)) (x : Sk.T M) : Sk.last (pre ++ [x]) = x.1.1 := by unfold Sk.last; simp
theorem Sk.rise_pre {L : List Ent} (hf : En.fits L) {pre : List (Sk.T (Sk.own L))} (h : pre <+: (Sk.ts (Sk.own L)).attach) : Sk.Rising pre := by
  unfold Sk.Rising
  have hr : (((Sk.ts (Sk.own L)).attach).map (fun x => x.1.1)).Pairwise (· < ·) := by
    have e : ((Sk.ts (Sk.own L)).attach).map (fun x => x.1.1) = (Sk.ts (Sk.own L)).map Prod.fst := by
      conv => rhs; rw [← List.attach_map_subtype_val (Sk.ts (Sk.own L)), List.map_map]
      rfl
    rw [e]
    unfold Sk.own
    split
    · rename_i h; exact (Sk.ts_rise L 0 hf (En.row_from h)).2
    · simp [Sk.ts]
  exact hr.sublist ((h.map _).sublist)
theorem Sk.fall {M : List Ent} {pre : List (Sk.T M)} {x : Sk.T M} (h0 : 0 < pre.length) (h : x.1.1 ≤ Sk.last pre) : ¬ Sk.Rising (pre ++ [x]) := by
  intro hr
  unfold Sk.Rising at hr
  rw [List.map_append, List.pairwise_append] at hr
  have hne : pre ≠ [] := by intro e; subst e; simp at h0
  have hl : Sk.last pre = (pre.getLast hne).1.1 := by unfold Sk.last; rw [List.getLast?_eq_some_getLast hne]
  have := hr.2.2 (pre.getLast hne).1.1 (List.mem_map.2 ⟨_, List.getLast_mem hne, rfl⟩) x.1.1 (by simp)
  omega
theorem Sk.last_bd {L : List Ent} (hf : En.fits L) (pre : List (Sk.T (Sk.own L))) : 0 ≤ Sk.last pre ∧ Sk.last pre < 18446744073709551616 := by
  unfold Sk.last
  split
  · omega
  · rename_i x _
    have := Sk.ts_found hf x.2
    omega

end Go.Proofs.Ytppciejcobmikaa
