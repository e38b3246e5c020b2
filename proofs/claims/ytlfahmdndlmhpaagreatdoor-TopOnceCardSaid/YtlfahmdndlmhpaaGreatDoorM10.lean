/- 'string(b)' of a row of bytes. Own rows of unlike elements: what a step on the one leaves of the other. An append where a guard is met; bounds on what lists of entries are told of. -/
import Derived.Test.YtlfahmdndlmhpaaGreatDoorM09
import Derived.Laws.BytesArg
import Derived.Test.YtlfahmdndlmhpaaGreatDoorM08
namespace Go.Proofs.YtlfahmdndlmhpaaGreatDoor
open Go.RowKit

theorem row8_str {w : World} {B n c : Nat} {A : Option Addr} {l : List Int} (h : Reads w B 1 A n (l.map (Value.int .u8))) (hn : n = l.length) : (convert 111 9 (.slice A n c)).run Tryz.prog w = .ok (.string (strOfNums l)) w := by
  subst hn
  rcases Nat.eq_zero_or_pos l.length with h0 | h0
  · have hl : l = [] := List.eq_nil_of_length_eq_zero h0
    subst hl
    cases A with
    | none => exact run_convert_bytes_nil w 111 5 Tryz.underlying111 Tryz.underlying5 0 c 9 Tryz.underlying9
    | some ad =>
      show (convert 111 9 (.slice (some ad) 0 c)).run Tryz.prog w = _
      rw [run_convert_bytes_string w 111 9 5 (some ad) 0 c Tryz.underlying111 Tryz.underlying5 Tryz.underlying9]
      exact run_bytesToString w ad 0 c [] (by simpa using run_loadCells_list (P := Tryz.prog) w ad [] (fun j v hj => by simp at hj))
  · obtain ⟨g, off, rfl, _, _⟩ := h.num rfl 0 h0
    refine run_convert_bytes_arg w 111 5 Tryz.underlying111 Tryz.underlying5 g off l.length c l rfl (fun i hi => ?_) 9 Tryz.underlying9
    obtain ⟨g', off', e, _, hc⟩ := h.num rfl i hi
    injection e with e
    injection e with e1 e2 _
    subst e1 e2
    rw [hc]
    simp [List.getD, List.getElem?_eq_getElem hi]
theorem Row8.str {w : World} {B : Nat} {A : Option Addr} {c : Nat} {l : List Int} (h : Row8 w B (.slice A l.length c) l) : (convert 111 9 (.slice A l.length c)).run Tryz.prog w = .ok (.string (strOfNums l)) w :=
  row8_str (Reads.of_own h) rfl
end Go.Proofs.YtlfahmdndlmhpaaGreatDoor
namespace Go.Proofs.YtlfahmdndlmhpaaGreatDoor
open Go.RowKit

theorem own_ne {w : World} {base base' size size' n n' : Nat} {e e' : TypeId} {v v' : Value} {xs xs' : List Value} (h : w.ownsRow base e size v n xs) (h' : w.ownsRow base' e' size' v' n' xs') (hne : e ≠ e') : v.ownBlock = none ∨ v.ownBlock ≠ v'.ownBlock := by
  rcases h.2 with ⟨rfl, _⟩ | ⟨g, cap, cur, rfl, _, hh, _⟩
  · exact Or.inl rfl
  · refine Or.inr (fun e1 => ?_)
    rcases h'.2 with ⟨rfl, _⟩ | ⟨g', cap', cur', rfl, _, hh', _⟩
    · cases e1
    · simp only [Value.ownBlock, Option.some.injEq] at e1
      subst e1
      rw [hh] at hh'
      injection hh' with hh'
      injection hh' with _ hh'
      exact hne hh'
theorem own_apart {w w' : World} {base base' size size' n n' : Nat} {e e' : TypeId} {v v' : Value} {xs xs' : List Value} (h : w.ownsRow base e size v n xs) (h' : w.ownsRow base' e' size' v' n' xs') (hne : e ≠ e') (hg : w.grownBy w' v'.ownBlock) : w'.ownsRow base e size v n xs := h.kept hg (own_ne h h' hne)
theorem own_cap {w : World} {base size n m c : Nat} {e : TypeId} {A : Option Addr} {xs : List Value} (h : w.ownsRow base e size (.slice A m c) n xs) : n ≤ c := by
  rcases h.2 with ⟨_, rfl⟩ | ⟨g, cap, cur, hv, _, _, hc, _⟩
  · exact Nat.zero_le _
  · injection hv with _ _ hv
    omega
end Go.Proofs.YtlfahmdndlmhpaaGreatDoor
namespace Go.Proofs.YtlfahmdndlmhpaaGreatDoor
open Go.RowKit

section
variable {P : Program} (w : World)
theorem wpList_met {ops : Array Oper} {rest : List Oper} {o : Oper} {a : Act} {w : World} {Q : Exit → Act → World → Prop} (hw : Region.wanted o (yielded ops a.tmps) = true)
    (h : ∀ K : Act → World → Prop, (∀ a w, wpList P ops Q rest a w → K a w) → o.wp P a w K Q) : wpList P ops Q (o :: rest) a w :=
  wpList_step fun K hK => by simp only [hw, if_true]; exact h K hK
theorem wpList_append_met {ops : Array Oper} {rest : List Oper} {o : Oper} {a : Act} {Q : Exit → Act → World → Prop} (hgd : Region.wanted o (yielded ops a.tmps) = true) (s x : Operand) (t : TypeId)
    (ho : o.op = .call { callee := .builtin .append, args := #[s, x], argTypes := #[t, t] })
    (base : Nat) (e : TypeId) (i : TypeInfo) (z : Value) (size bytes : Nat) (ht : P.underlying t = some (.slice e)) (hi : P.info? e = some i) (hz : i.zero = some z)
    (hsize : i.size = size) (hby : i.bytes = bytes) (hzs : z.cells.size = size) (hsz : 0 < size)
    (v : Value) (n : Nat) (xs : List Value) (hs : a.eval s = v) (hown : w.ownsRow base e size v n xs)
    (B : Nat) (A : Option Addr) (m c : Nat) (news : List Value) (hx : a.eval x = .slice A m c) (hr : Reads w B size A m news) (h1 : ∀ u ∈ news, u.oneCell' = true)
    (h63 : n + m ≤ maxLen) (hbytes : (n + m) * bytes ≤ 140737488355328) (hbase : base ≤ w.heap.size)
    (h : ∀ v' w', w'.ownsRow base e size v' (n + m) (xs ++ news) → w.grownBy w' v.ownBlock → (v'.ownBlock = v.ownBlock ∨ v'.ownBlock = some w.heap.size) → wpList P ops Q rest (a.put o.dst v') w') : wpList P ops Q (o :: rest) a w :=
  wpList_met hgd fun _ hK => wp_append_any w s x t ho base e i z size bytes ht hi hz hsize hby hzs hsz v n xs hs hown B A m c news hx hr h1 h63 hbytes hbase fun v' w' h2 h3 h4 => hK _ _ (h v' w' h2 h3 h4)
end

/-- what an append onto an own row leaves of what lay below -/
theorem grown_below {B base size n : Nat} {e : TypeId} {w0 w w' : World} {v : Value} {xs : List Value} (hb : Below B w0 w) (hB : B ≤ w.heap.size) (hg : w.grownBy w' v.ownBlock) (ho : w.ownsRow base e size v n xs) (hbase : B ≤ base) : Below B w0 w' :=
  hb.grown hg hB fun k hk => Nat.le_trans hbase (ho.lt k hk).1

theorem add_at (g n : Nat) : (⟨g, 0, none⟩ : Addr).add n = ⟨g, n, none⟩ := by unfold Addr.add; split <;> simp_all
theorem En.cnt_bd (L : List Ent) (h : En.fits L) : 0 ≤ En.cnt L ∧ En.cnt L ≤ L.length * 4294967295 := by
  have : ∀ (L : List Ent) (s : Int), En.fits L → 0 ≤ s → 0 ≤ L.foldl En.addC s ∧ L.foldl En.addC s ≤ s + L.length * 4294967295 := by
    intro L
    induction L with
    | nil => intro s _ hs; simp; exact hs
    | cons e L ih =>
      intro s hf hs
      have hg := hf e (by simp)
      obtain ⟨_, _, _, r0, r1⟩ := hg
      have h1 : 0 ≤ En.addC s e ∧ En.addC s e ≤ s + 4294967295 := by unfold En.addC; split <;> omega
      have h2 := ih (En.addC s e) (fun x hx => hf x (List.mem_cons_of_mem _ hx)) h1.1
      rw [List.foldl_cons]
      refine ⟨h2.1, ?_⟩
      rw [List.length_cons]
      have h3 := h2.2
      push_cast
      omega
  have := this L 0 h (by omega)
  unfold En.cnt
  omega
theorem En.con_bd (L : List Ent) : 0 ≤ En.con L ∧ En.con L ≤ L.length := by
  have := En.keys_len L L.length (Nat.le_refl _)
  rw [List.take_length] at this
  unfold En.con
  omega
theorem En.fin_bd (L : List Ent) : 0 ≤ En.fin L ∧ En.fin L ≤ 1099511627776 := by
  refine ⟨En.fin_ge L, ?_⟩
  have : ∀ (L : List Ent) (s : Int), s ≤ 1099511627776 → L.foldl En.maxE s ≤ 1099511627776 := by
    intro L
    induction L with
    | nil => intro s hs; exact hs
    | cons e L ih =>
      intro s hs
      rw [List.foldl_cons]
      refine ih _ ?_
      unfold En.maxE
      by_cases c : En.c e = 0
      · rw [if_pos c]
        have := En.ck_end c
        split <;> omega
      · rw [if_neg c]; exact hs
  exact this L 0 (by omega)
theorem En.fin_max (L M : List Ent) : En.fin (L ++ M) = if En.fin L < En.fin M then En.fin M else En.fin L := by
  rw [En.fin_app]
  split <;> omega
theorem En.fits_app {L M : List Ent} (h : En.fits L) (h' : En.fits M) : En.fits (L ++ M) := fun e he => by
  rcases List.mem_append.1 he with he | he
  · exact h e he
  · exact h' e he

end Go.Proofs.YtlfahmdndlmhpaaGreatDoor
