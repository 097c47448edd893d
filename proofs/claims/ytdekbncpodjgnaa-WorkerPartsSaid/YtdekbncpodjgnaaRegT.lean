/-
  A region that draws its order, only makes memory, and whose operations each yield a value known beforehand: a table of the values, guards decided by the table.
-/
import Derived.Test.YtdekbncpodjgnaaPRg
namespace Go.Proofs.Ytdekbncpodjgnaa
open Go Go.RowKit
set_option linter.unusedVariables false
set_option linter.unusedSimpArgs false
namespace Reg

section
variable {P : Program} {ops : Array Oper} {Q : Exit → Act → World → Prop}
theorem grown_below {w w' : World} (h : w.grownBy w' (some w.heap.size)) : Below w.heap.size w w' :=
  ⟨h.os, h.tape, h.output, h.size, fun k hk => h.block k hk (fun e => by cases e; omega)⟩
theorem putL_congr (v1 v2 : Nat → Value) (l : List Oper) : ∀ (i : Nat) (a : Act), (∀ k, i ≤ k → k < i + l.length → v1 k = v2 k) → putL v1 i l a = putL v2 i l a := by
  induction l with
  | nil => intro i a _; rfl
  | cons o l ih =>
    intro i a h
    simp only [putL]
    rw [h i (Nat.le_refl _) (by simp)]
    exact ih (i + 1) _ (fun k h1 h2 => h k (by omega) (by simp; omega))
/-- The guard, by the table. -/
def wantT (T : Nat → Value) (o : Oper) : Bool :=
  match o.guard with
  | none => true
  | some (j, b) => match T j with | .bool b' => b' == b | _ => false
/-- A guard's operation stands before, and yields. -/
def guardB (ops : Array Oper) : Bool := ops.toList.all fun o => match o.guard with
  | none => true
  | some (j, _) => (o.after.toList.any fun e => e.on == j && Region.binds .any e) && ((ops[j]?).bind (·.dst)).isSome
theorem wanted_tab {T : Nat → Value} {o : Oper} {a : Act} (hg : (match o.guard with | none => true | some (j, _) => (o.after.toList.any fun e => e.on == j && Region.binds .any e) && ((ops[j]?).bind (·.dst)).isSome) = true)
    (hdep : ∀ j d oj, ops[j]? = some oj → oj.dst = some d → (o.after.toList.any fun e => e.on == j && Region.binds .any e) = true → a.eval (.tmp d) = T j) : Region.wanted o (yielded ops a.tmps) = wantT T o := by
  unfold Region.wanted wantT
  cases h : o.guard with
  | none => rfl
  | some jb =>
    obtain ⟨j, b⟩ := jb
    rw [h] at hg
    simp only [Bool.and_eq_true] at hg
    obtain ⟨h1, h2⟩ := hg
    cases ho : ops[j]? with
    | none => rw [ho] at h2; simp at h2
    | some oj =>
      rw [ho] at h2
      cases hd : oj.dst with
      | none => simp [hd] at h2
      | some d =>
        have e := hdep j d oj ho hd h1
        have e2 := ev_tmps e
        unfold yielded
        simp only [ho, Option.bind_some, hd]
        cases ht : a.tmps[d]? with
        | none =>
          rw [ht] at e2
          simp only [Option.getD_none] at e2
          rw [← e2]
          simp [undef]
        | some v =>
          rw [ht] at e2
          simp only [Option.getD_some] at e2
          subst e2
          cases T j <;> simp
/-- What is to be shown of one operation. -/
def TabOk (P : Program) (ops : Array Oper) (Q : Exit → Act → World → Prop) (a0 : Act) (w0 : World) (T : Nat → Value) (i : Nat) (o : Oper) : Prop :=
  if wantT T o = true then
  ∀ (a : Act) (w : World), Below w0.heap.size w0 w →
    (∀ j d oj, ops[j]? = some oj → oj.dst = some d → (o.after.toList.any fun e => e.on == j && Region.binds .any e) = true → a.eval (.tmp d) = T j) →
    (∀ t, (ops.toList.all fun o : Oper => o.dst != some t) = true → a.eval (.tmp t) = a0.eval (.tmp t)) →
    ∀ K : Act → World → Prop, (∀ w', Below w.heap.size w w' → K (a.put o.dst (T i)) w') → o.wp P a w K Q
  else T i = undef
theorem wp_region_tab {id : Nat} {a0 : Act} {w : World} (hm : P.follows .mixedOrders = true) (hback : backB ops = true) (hdst : dstB ops a0.tmps.size = true) (hgd : guardB ops = true)
    (T : Nat → Value) (hs : AllIdx (TabOk P ops Q a0 w T) 0 ops.toList)
    (hd : ∀ w', Below w.heap.size w w' → Q .normal (putL T 0 ops.toList a0) w') : (Code.region id ops true).wp P Q a0 w := by
  refine wp_region_mono hm hback hdst (fun k v _ => v = T k) ops.size w.heap.size (fun _ => True) (fun _ _ _ _ _ h => h) (fun _ _ _ h => h) ?_ ?_
  · have key : ∀ (l : List Oper) (i : Nat), (∀ o ∈ l, o ∈ ops.toList) → AllIdx (TabOk P ops Q a0 w T) i l → AllIdx (MonoOk P ops Q a0 w (fun k v _ => v = T k) ops.size w.heap.size (fun _ => True)) i l := by
      intro l
      induction l with
      | nil => intro i _ _; trivial
      | cons o l ih =>
        intro i hmem h
        refine ⟨?_, ih (i + 1) (fun o ho => hmem o (by simp [ho])) h.2⟩
        intro val a w' hgr _ hdep hold K hK
        have hb := grown_below hgr
        have hdep2 : ∀ j d oj, ops[j]? = some oj → oj.dst = some d → (o.after.toList.any fun e => e.on == j && Region.binds .any e) = true → a.eval (.tmp d) = T j := by
          intro j d oj h1 h2 h3
          obtain ⟨e1, e2⟩ := hdep j d oj h1 h2 h3
          exact e1.trans e2
        have hK2 : ∀ w'', Below w'.heap.size w' w'' → K (a.put o.dst (T i)) w'' := fun w'' hb2 => hK (T i) w'' (fun _ => hb2) (fun _ => ⟨below_grown hb2 _, trivial⟩) rfl
        rw [wanted_tab ((List.all_eq_true.1 hgd) o (hmem o (by simp))) hdep2]
        have h1 := h.1
        unfold TabOk at h1
        split
        · next hw =>
          rw [if_pos hw] at h1
          exact h1 a w' hb hdep2 hold K hK2
        · next hw =>
          rw [if_neg hw] at h1
          rw [← h1]
          exact hK2 w' (Below.refl _ _)
    exact key ops.toList 0 (fun _ h => h) hs
  · intro val w' hgr hall _
    rw [putL_congr val T ops.toList 0 a0 (fun k _ hk => hall k (by simpa using hk))]
    exact hd w' (grown_below hgr)
end
end Reg
end Go.Proofs.Ytdekbncpodjgnaa
