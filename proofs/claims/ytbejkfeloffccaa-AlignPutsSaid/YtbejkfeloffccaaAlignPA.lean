/-
  What the reference's Put gathers: plain; appends of rows of blocks.
-/
import Derived.Test.YtbejkfeloffccaaAlignY
namespace Go.Proofs.Ytbejkfeloffccaa
open Go.RowKit
set_option linter.unusedVariables false
set_option linter.unusedSimpArgs false

def outL (l : List (Int × List Int)) (b : Int × List Int) (k : Nat) : List (Int × List Int) := (l.take k).filter (fun x => decide (endB x < b.1))
def behL (l : List (Int × List Int)) (b : Int × List Int) (k : Nat) : List (Int × List Int) := (l.take k).filter (fun x => decide (endB b < x.1))
def hF (l : List (Int × List Int)) (b : Int × List Int) : Nat → Int
  | 0 => b.1
  | k + 1 => if b.1 ≤ endB (l.getD k (0, [])) ∧ (l.getD k (0, [])).1 ≤ endB b ∧ (l.getD k (0, [])).1 < hF l b k then (l.getD k (0, [])).1 else hF l b k
def hT (l : List (Int × List Int)) (b : Int × List Int) : Nat → Int
  | 0 => endB b
  | k + 1 => if b.1 ≤ endB (l.getD k (0, [])) ∧ (l.getD k (0, [])).1 ≤ endB b ∧ hT l b k < endB (l.getD k (0, [])) then endB (l.getD k (0, [])) else hT l b k
section
variable {l : List (Int × List Int)} {b : Int × List Int}
theorem outL_yes {k : Nat} (hk : k < l.length) (h : endB l[k] < b.1) : outL l b (k + 1) = outL l b k ++ [l[k]] := by
  unfold outL
  rw [List.take_succ_eq_append_getElem hk, List.filter_append]
  simp [h]
theorem outL_no {k : Nat} (hk : k < l.length) (h : ¬ endB l[k] < b.1) : outL l b (k + 1) = outL l b k := by
  unfold outL
  rw [List.take_succ_eq_append_getElem hk, List.filter_append]
  simp [h]
theorem behL_yes {k : Nat} (hk : k < l.length) (h : endB b < l[k].1) : behL l b (k + 1) = behL l b k ++ [l[k]] := by
  unfold behL
  rw [List.take_succ_eq_append_getElem hk, List.filter_append]
  simp [h]
theorem behL_no {k : Nat} (hk : k < l.length) (h : ¬ endB b < l[k].1) : behL l b (k + 1) = behL l b k := by
  unfold behL
  rw [List.take_succ_eq_append_getElem hk, List.filter_append]
  simp [h]
theorem outL_end (hA : Apart l) : outL l b l.length = l.take (loOf l b) := by
  unfold outL
  rw [List.take_length]
  conv => lhs; rw [← List.take_append_drop (loOf l b) l]
  rw [List.filter_append, List.filter_eq_self.2 (fun m hm => decide_eq_true (take_lo hm).2), List.filter_eq_nil_iff.2, List.append_nil]
  intro m hm
  obtain ⟨i, hi, e⟩ := List.mem_iff_getElem.1 hm
  have hi' : loOf l b + i < l.length := by simp at hi; omega
  have e2 : (l.drop (loOf l b))[i]'hi = l[loOf l b + i]'hi' := by simp
  rw [e2] at e
  subst e
  have := lo_ge hA (b := b) hi' (by omega)
  simp only [decide_eq_true_eq]
  omega
theorem behL_end (hA : Apart l) (hb : okB b = true) : behL l b l.length = l.drop (hiOf l b) := by
  unfold behL
  rw [List.take_length]
  conv => lhs; rw [← List.take_append_drop (hiOf l b) l]
  rw [List.filter_append, List.filter_eq_nil_iff.2, List.nil_append, List.filter_eq_self.2 (fun m hm => decide_eq_true (drop_hi hA hm).2)]
  intro m hm
  obtain ⟨i, hi, e⟩ := List.mem_iff_getElem.1 hm
  have hi' : i < hiOf l b ∧ i < l.length := by simp at hi; omega
  have e2 : (l.take (hiOf l b))[i]'hi = l[i]'hi'.2 := by simp
  rw [e2] at e
  subst e
  simp only [decide_eq_true_eq]
  by_cases h1 : i < loOf l b
  · have := lo_lt hi'.2 h1
    have := okB_pos (hA.1 i hi'.2)
    have := okB_pos hb
    omega
  · have := hi_lt hi'.2 (by omega) hi'.1
    omega
theorem hull_take (hA : Apart l) (k : Nat) (hk : k ≤ l.length) : JoinS (l.take k) b (hF l b k) (hT l b k) := by
  induction k with
  | zero => exact ⟨Int.le_refl _, by simp, .inl rfl, Int.le_refl _, by simp, .inl rfl⟩
  | succ k ih =>
    have h := ih (by omega)
    have hlt : k < l.length := by omega
    have e : l.getD k (0, []) = l[k] := getD_lt _ _ hlt
    have hm : ∀ m, m ∈ l.take (k + 1) ↔ m ∈ l.take k ∨ m = l[k] := by
      intro m
      rw [List.take_succ_eq_append_getElem hlt, List.mem_append, List.mem_singleton]
    have h1 := h.f1
    have h2 := h.t1
    unfold hF hT
    rw [e]
    refine ⟨?_, fun m hmm ht => ?_, ?_, ?_, fun m hmm ht => ?_, ?_⟩
    · split <;> omega
    · rcases (hm m).1 hmm with h3 | h3
      · have := h.f2 m h3 ht
        split <;> omega
      · rw [h3] at ht ⊢
        have h4 := ht.1
        have h5 := ht.2
        split <;> omega
    · split
      · rename_i h3
        exact .inr ⟨_, (hm _).2 (.inr rfl), ⟨h3.1, h3.2.1⟩, rfl⟩
      · rcases h.f3 with h3 | ⟨m, h3, h4, h5⟩
        · exact .inl h3
        · exact .inr ⟨m, (hm _).2 (.inl h3), h4, h5⟩
    · split <;> omega
    · rcases (hm m).1 hmm with h3 | h3
      · have := h.t2 m h3 ht
        split <;> omega
      · rw [h3] at ht ⊢
        have h4 := ht.1
        have h5 := ht.2
        split <;> omega
    · split
      · rename_i h3
        exact .inr ⟨_, (hm _).2 (.inr rfl), ⟨h3.1, h3.2.1⟩, rfl⟩
      · rcases h.t3 with h3 | ⟨m, h3, h4, h5⟩
        · exact .inl h3
        · exact .inr ⟨m, (hm _).2 (.inl h3), h4, h5⟩
theorem JoinS.one {F T F' T' : Int} (h : JoinS l b F T) (h' : JoinS l b F' T') : F = F' ∧ T = T' := by
  have a1 := h.f1
  have a2 := h'.f1
  have a3 := h.t1
  have a4 := h'.t1
  have k1 : F' ≤ F := by
    rcases h.f3 with e | ⟨m, hm, ht, e⟩
    · omega
    · have := h'.f2 m hm ht; omega
  have k2 : F ≤ F' := by
    rcases h'.f3 with e | ⟨m, hm, ht, e⟩
    · omega
    · have := h.f2 m hm ht; omega
  have k3 : T ≤ T' := by
    rcases h.t3 with e | ⟨m, hm, ht, e⟩
    · omega
    · have := h'.t2 m hm ht; omega
  have k4 : T' ≤ T := by
    rcases h'.t3 with e | ⟨m, hm, ht, e⟩
    · omega
    · have := h.t2 m hm ht; omega
  exact ⟨by omega, by omega⟩
theorem hull_end (hA : Apart l) : hF l b l.length = jFrom (midOf l b) b ∧ hT l b l.length = jTo (midOf l b) b := by
  have h := hull_take (b := b) hA l.length (Nat.le_refl _)
  rw [List.take_length] at h
  exact h.one (join_spec hA)
theorem hull_bd (hA : Apart l) (hb : okB b = true) (k : Nat) (hk : k ≤ l.length) : 0 ≤ hF l b k ∧ hF l b k ≤ b.1 ∧ endB b ≤ hT l b k ∧ hT l b k ≤ 1000256 := by
  have h := hull_take (b := b) hA k hk
  have hb' := okB_bd hb
  refine ⟨?_, h.f1, h.t1, ?_⟩
  · rcases h.f3 with e | ⟨m, hm, ht, e⟩
    · omega
    · have := okB_bd (apart_ok hA (List.mem_of_mem_take hm)); omega
  · rcases h.t3 with e | ⟨m, hm, ht, e⟩
    · rw [e]; unfold endB; omega
    · have := okB_bd (apart_ok hA (List.mem_of_mem_take hm))
      rw [e]; unfold endB; omega
theorem putL_ref (hA : Apart l) (hb : okB b = true) : putL l b = outL l b l.length ++ [(hF l b l.length, fullL (fun i => valB l b (hF l b l.length + i)) (hT l b l.length - hF l b l.length).toNat)] ++ behL l b l.length := by
  obtain ⟨e1, e2⟩ := hull_end (b := b) hA
  rw [outL_end hA, behL_end hA hb, e1, e2]
  have := joinB_eq (b := b) hA
  unfold joinB at this
  unfold putL
  rw [this]
/-- The reference's sample, in the order in which it asks. -/
theorem valB_ref (ha : refAg l b = true) (t : Int) : valB l b t = if sampAt l t = 0 then (if b.1 ≤ t ∧ t < endB b then sB b t else 0) else sampAt l t := by
  by_cases h0 : sampAt l t = 0
  · rw [if_pos h0]
    unfold valB
    by_cases h1 : b.1 ≤ t ∧ t < endB b
    · rw [if_pos h1]
      by_cases h2 : sB b t = 0
      · rw [if_neg (fun h => h.2.2 h2), h0, h2]
      · rw [if_pos ⟨h1.1, h1.2, h2⟩]
    · rw [if_neg h1, if_neg (fun h => h1 ⟨h.1, h.2.1⟩), h0]
  · rw [if_neg h0, val_keep ha h0]
theorem valB_bd (hA : Apart l) (hb : okB b = true) (t : Int) : -3 ≤ valB l b t ∧ valB l b t ≤ 3 := by
  have h0 : ∀ x : Int, 0 ≤ digitOf x → -3 ≤ x ∧ x ≤ 3 := by
    intro x hx
    unfold digitOf at hx
    repeat' split at hx
    all_goals omega
  unfold valB
  split
  · unfold sB; exact h0 _ (digit_at (okB_bd hb).2.2.2.2 _)
  · exact h0 _ (digit_samp hA _)
end

theorem Elems.turn {base : Nat} {w w' : World} {own own2 : Option Nat} {raws : List (Int × Value)} {l : List (Int × List Int)} (h : Elems base w own raws l) (h2 : Elems base w own2 raws l) (hg : w.grownBy w' own) : Elems base w' own2 raws l := by
  refine ⟨h.1, fun j h1 h3 => ?_⟩
  obtain ⟨e1, A, c, e2, r, hc, hne⟩ := h.2 j h1 h3
  obtain ⟨_, A2, c2, e4, _, _, hne2⟩ := h2.2 j h1 h3
  rw [e2] at e4
  injection e4 with e5 e6 e7
  subst e5
  exact ⟨e1, A, c, e2, r.grown hg hne, hc, hne2⟩
theorem wpList_append_rows {P : Program} (w : World) {ops : Array Oper} {rest : List Oper} {o : Oper} {a : Act} {Q : Exit → Act → World → Prop} (hgd : o.guard = none) (s x : Operand) (t : TypeId)
    (ho : o.op = .call { callee := .builtin .append, args := #[s, x], argTypes := #[t, t] })
    (base : Nat) (e : TypeId) (i : TypeInfo) (z : Value) (bytes : Nat) (ht : P.underlying t = some (.slice e)) (hi : P.info? e = some i) (hz : i.zero = some z)
    (hsize : i.size = 2) (hby : i.bytes = bytes) (hzs : z.cells.size = 2)
    (v : Value) (n : Nat) (xs : List Value) (hs : a.eval s = v) (hown : w.ownsRow base e 2 v n xs)
    (base2 : Nat) (e2 : TypeId) (v2 : Value) (m : Nat) (ys : List Value) (hx : a.eval x = v2) (hown2 : w.ownsRow base2 e2 2 v2 m ys) (hone : ∀ u ∈ ys, u.oneCell' = true)
    (h63 : n + m ≤ maxLen) (hbytes : (n + m) * bytes ≤ 140737488355328) (hbase : base ≤ w.heap.size)
    (h : ∀ v' w', w'.ownsRow base e 2 v' (n + m) (xs ++ ys) → w.grownBy w' v.ownBlock → (v'.ownBlock = v.ownBlock ∨ v'.ownBlock = some w.heap.size) → wpList P ops Q rest (a.put o.dst v') w') : wpList P ops Q (o :: rest) a w := by
  have hlen := hown2.1
  rcases hown2.2 with ⟨rfl, hm⟩ | ⟨g, cap, cur, rfl, _, hheap, hnc, _, hcur, htake⟩
  · subst hm
    obtain rfl : ys = [] := by
      rcases ys with _ | ⟨y, ys⟩
      · rfl
      · simp at hlen
    refine wpList_plain hgd fun K hK => ?_
    have hrun : (Builtin.append_ #[t, t] o.type #[v, .slice none 0 0]).run P w = .ok v w := by
      rcases hown.2 with ⟨rfl, _⟩ | ⟨g, cap, cur, rfl, _, _, hnc, _⟩
      · simp [Builtin.append_, run_underlying ht, sizeOf, typeInfo, hi, Builtin.lenOf, Builtin.firstCells]
      · simp [Builtin.append_, run_underlying ht, sizeOf, typeInfo, hi, Builtin.lenOf, Builtin.firstCells, hnc, storeCells]
    unfold Oper.wp
    simp [execOp, ho, resolve, invoke, builtin, hs, hx, hrun, Result.andThen]
    exact hK _ _ (h v w (by simpa using hown) (World.grownBy.refl _ _) (.inl rfl))
  · refine wpList_append_own_at w hgd s x t ho base e i z 2 bytes ht hi hz hsize hby hzs (by omega) v n xs hs hown ⟨g, 0, none⟩ m cap ys hx hlen ?_ hone h63 hbytes hbase ?_
    · intro j u hu
      have hj : j < ys.length := (List.getElem?_eq_some_iff.1 hu).1
      rw [← htake] at hu
      have hj2 : j < m * 2 := by omega
      rw [List.getElem?_take_of_lt hj2] at hu
      have hcu : cur[j]? = some u := by simpa using hu
      by_cases hj0 : j = 0
      · subst hj0
        simp [World.cell?, Addr.add, hheap, hcu]
      · simp [World.cell?, Addr.add, hheap, hcu, hj0]
    · intro v' w' h1 h2 h3 h4
      exact h v' w' h1 h2 h4
end Go.Proofs.Ytbejkfeloffccaa
