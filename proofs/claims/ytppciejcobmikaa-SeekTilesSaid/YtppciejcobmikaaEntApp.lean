/- An append where a guard is met; bounds on what lists of entries are told of. -/
import Derived.Test.YtppciejcobmikaaEntOwn
namespace Go.Proofs.Ytppciejcobmikaa
open Go.RowKit

section
variable {P : Program} (w : World)
theorem wpList_met {ops : Array Oper} {rest : List Oper} {o : Oper} {a : Act} {w : World} {Q : Exit → Act → World → Prop} (hw : Region.wanted o (yielded ops a.tmps) = true)
    (h : ∀ K : Act → World → Prop, (∀ a w, wpList P ops Q rest a w → K a w) → o.wp P a w K Q) : wpList P ops Q (o :: rest) a w :=
  wpList_step fun K hK => by simp only [hw, if_true]; exact h K hK
theorem wpList_append_met {ops : Array Oper} {rest : List Oper} {o : Oper} {a : Act} {Q : Exit → Act → World → Prop} (hgd : Region.wanted o (yielded ops a.tmps) = true) (s x : Operand) (t : TypeId)
    (ho : o.op = .call { callee := .builtin .append, args := #[s, x], argTypes := #[t, t] })
    (base : Nat) (e : TypeId) (i : TypeInfo) (z : Value) (size bytes : Nat) (ht : P.underlying t = some (.slice e)) (hi : P.info? e = some i) (hz : i.zero = some z)
    (hsize : i.size = size) (hby : i.bytes = bytes) (hzs : z.cells.size = size) (hsz : 0 < size)
    (v : Value) (n : Nat) (xs : List Value) (hs : a.eval s = v) (hown : w.ownsRow base e size v n xs)
    (B : Nat) (A : Option Addr) (m c : Nat) (news : List Value) (hx : a.eval x = .slice A m c) (hr : Reads w B size A m news) (h1 : ∀ u ∈ news, u.oneCell' = true)
    (h63 : n + m ≤ maxLen) (hbytes : (n + m) * bytes ≤ 140737488355328) (hbase : base ≤ w.heap.size)
    (h : ∀ v' w', w'.ownsRow base e size v' (n + m) (xs ++ news) → w.grownBy w' v.ownBlock → (v'.ownBlock = v.ownBlock ∨ v'.ownBlock = some w.heap.size) → wpList P ops Q rest (a.put o.dst v') w') : wpList P ops Q (o :: rest) a w :=
  wpList_met hgd fun _ hK => wp_append_any w s x t ho base e i z size bytes ht hi hz hsize hby hzs hsz v n xs hs hown B A m c news hx hr h1 h63 hbytes hbase fun v' w' h2 h3 h4 => hK _ _ (h v' w' h2 h3 h4)
end

/-- what an append onto an own row leaves of what lay below -/
theorem grown_below {B base size n : Nat} {e : TypeId} {w0 w w' : World} {v : Value} {xs : List Value} (hb : Below B w0 w) (hB : B ≤ w.heap.size) (hg : w.grownBy w' v.ownBlock) (ho : w.ownsRow base e size v n xs) (hbase : B ≤ base) : Below B w0 w' :=
  hb.grown hg hB fun k hk => Nat.le_trans hbase (ho.lt k hk).1

theorem add_at (g n : Nat) : (⟨g, 0, none⟩ : Addr).add n = ⟨g, n, none⟩ := by unfold Addr.add; split <;> simp_all
theorem En.cnt_bd (L : List Ent) (h : En.fits L) : 0 ≤ En.cnt L ∧ En.cnt L ≤ L.length * 4294967295 := by
  have : ∀ (L : List Ent) (s : Int), En.fits L → 0 ≤ s → 0 ≤ L.foldl En.addC s ∧ L.foldl En.addC s ≤ s + L.length * 4294967295 := by
    intro L
    induction L with
    | nil => intro s _ hs; simp; exact hs
    | cons e L ih =>
      intro s hf hs
      have hg := hf e (by simp)
      obtain ⟨_, _, _, r0, r1⟩ := hg
      have h1 : 0 ≤ En.addC s e ∧ En.addC s e ≤ s + 4294967295 := by unfold En.addC; split <;> omega
      have h2 := ih (En.addC s e) (fun x hx => hf x (List.mem_cons_of_mem _ hx)) h1.1
      rw [List.foldl_cons]
      refine ⟨h2.1, ?_⟩
      rw [List.length_cons]
      have h3 := h2.2
      push_cast
      omega
  have := this L 0 h (by omega)
  unfold En.cnt
  omega
theorem En.con_bd (L : List Ent) : 0 ≤ En.con L ∧ En.con L ≤ L.length := by
  have := En.keys_len L L.length (Nat.le_refl _)
  rw [List.take_length] at this
  unfold En.con
  omega
theorem En.fin_bd (L : List Ent) : 0 ≤ En.fin L ∧ En.fin L ≤ 1099511627776 := by
  refine ⟨En.fin_ge L, ?_⟩
  have : ∀ (L : List Ent) (s : Int), s ≤ 1099511627776 → L.foldl En.maxE s ≤ 1099511627776 := by
    intro L
    induction L with
    | nil => intro s hs; exact hs
    | cons e L ih =>
      intro s hs
      rw [List.foldl_cons]
      refine ih _ ?_
      unfold En.maxE
      by_cases c : En.c e = 0
      · rw [if_pos c]
        have := En.ck_end c
        split <;> omega
      · rw [if_neg c]; exact hs
  exact this L 0 (by omega)
theorem En.fin_max (L M : List Ent) : En.fin (L ++ M) = if En.fin L < En.fin M then En.fin M else En.fin L := by
  rw [En.fin_app]
  split <;> omega
theorem En.fits_app {L M : List Ent} (h : En.fits L) (h' : En.fits M) : En.fits (L ++ M) := fun e he => by
  rcases List.mem_append.1 he with he | he
  · exact h e he
  · exact h' e he

end Go.Proofs.Ytppciejcobmikaa
