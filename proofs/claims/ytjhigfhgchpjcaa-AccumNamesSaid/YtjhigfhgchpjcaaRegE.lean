/-
  A region that draws its order and whose operations only make memory, but for the last one, which stands behind all others and may store.
-/
import Derived.Test.YtjhigfhgchpjcaaRegM
namespace Go.Proofs.Ytjhigfhgchpjcaa
open Go Go.RowKit
set_option linter.unusedVariables false
set_option linter.unusedSimpArgs false
namespace Reg

section
variable {P : Program} {ops : Array Oper} {Q : Exit → Act → World → Prop}
/-- The operation st stands behind all others. -/
def endB (ops : Array Oper) (st : Nat) : Bool :=
  match ops[st]? with
  | none => false
  | some o => (List.range ops.size).all fun j => j == st || o.after.toList.any fun e => e.on == j && Region.binds .any e
/-- What is to be shown of an operation that makes memory at most. -/
def GrowOk (P : Program) (ops : Array Oper) (Q : Exit → Act → World → Prop) (a0 : Act) (w0 : World) (G : Nat → Value → World → Prop) (i : Nat) (o : Oper) : Prop :=
  ∀ (val : Nat → Value) (a : Act) (w : World), Below w0.heap.size w0 w →
    (∀ j d oj, ops[j]? = some oj → oj.dst = some d → (o.after.toList.any fun e => e.on == j && Region.binds .any e) = true → a.eval (.tmp d) = val j ∧ G j (val j) w) →
    (∀ t, (ops.toList.all fun o : Oper => o.dst != some t) = true → a.eval (.tmp t) = a0.eval (.tmp t)) →
    ∀ K : Act → World → Prop, (∀ v w', Below w.heap.size w w' → G i v w' → K (a.put o.dst v) w') →
    if Region.wanted o (yielded ops a.tmps) = true then o.wp P a w K Q else K (a.put o.dst undef) w
/-- What is to be shown of the last operation. -/
def LastOk (P : Program) (ops : Array Oper) (Q : Exit → Act → World → Prop) (a0 : Act) (w0 : World) (G : Nat → Value → World → Prop) (F : (Nat → Value) → World → Prop) (i : Nat) (o : Oper) : Prop :=
  ∀ (val : Nat → Value) (a : Act) (w : World), Below w0.heap.size w0 w → (∀ k, k < ops.size → k ≠ i → G k (val k) w) →
    (∀ j d oj, ops[j]? = some oj → oj.dst = some d → j ≠ i → a.eval (.tmp d) = val j) →
    (∀ t, (ops.toList.all fun o : Oper => o.dst != some t) = true → a.eval (.tmp t) = a0.eval (.tmp t)) →
    ∀ K : Act → World → Prop, (∀ v w', F (upd val i v) w' → K (a.put o.dst v) w') →
    if Region.wanted o (yielded ops a.tmps) = true then o.wp P a w K Q else K (a.put o.dst undef) w
def EndOk (P : Program) (ops : Array Oper) (Q : Exit → Act → World → Prop) (a0 : Act) (w0 : World) (G : Nat → Value → World → Prop) (st : Nat) (F : (Nat → Value) → World → Prop) (i : Nat) (o : Oper) : Prop :=
  (i ≠ st → GrowOk P ops Q a0 w0 G i o) ∧ (i = st → LastOk P ops Q a0 w0 G F i o)
theorem EndOk.grow {a0 : Act} {w0 : World} {G : Nat → Value → World → Prop} {st : Nat} {F : (Nat → Value) → World → Prop} {i : Nat} {o : Oper} (h : GrowOk P ops Q a0 w0 G i o) (hi : i ≠ st) : EndOk P ops Q a0 w0 G st F i o := ⟨fun _ => h, fun e => absurd e hi⟩
theorem EndOk.last {a0 : Act} {w0 : World} {G : Nat → Value → World → Prop} {F : (Nat → Value) → World → Prop} {i : Nat} {o : Oper} (h : LastOk P ops Q a0 w0 G F i o) : EndOk P ops Q a0 w0 G i F i o := ⟨fun e => absurd rfl e, fun _ => h⟩
theorem wp_region_end {id : Nat} {a0 : Act} {w : World} (hm : P.follows .mixedOrders = true) (hback : backB ops = true) (hdst : dstB ops a0.tmps.size = true)
    (G : Nat → Value → World → Prop) (st : Nat) (F : (Nat → Value) → World → Prop) (hend : endB ops st = true) (hG : ∀ k v w w', Below w.heap.size w w' → G k v w → G k v w')
    (hs : AllIdx (EndOk P ops Q a0 w G st F) 0 ops.toList)
    (hd : ∀ val w', F val w' → Q .normal (putL val 0 ops.toList a0) w') : (Code.region id ops true).wp P Q a0 w := by
  have hst : st < ops.size := by
    unfold endB at hend
    rcases Nat.lt_or_ge st ops.size with h | h
    · exact h
    · rw [Array.getElem?_eq_none h] at hend; cases hend
  have hedge : ∀ o, ops[st]? = some o → ∀ j, j < ops.size → j ≠ st → ∃ e ∈ o.after, e.on = j ∧ Region.binds .any e = true := by
    intro o ho j hj hne
    unfold endB at hend
    rw [ho] at hend
    have h1 := List.all_eq_true.1 hend j (by simpa using hj)
    simp only [Bool.or_eq_true, beq_iff_eq, hne, false_or, List.any_eq_true, Bool.and_eq_true] at h1
    obtain ⟨e, he, h2, h3⟩ := h1
    exact ⟨e, by simpa using he, h2, h3⟩
  refine wp_region_val hm hback hdst (fun L val w' => (L.getD st false = true → (∀ k, k < ops.size → L.getD k false = true) ∧ F val w') ∧ (L.getD st false ≠ true → Below w.heap.size w w' ∧ ∀ k, L.getD k false = true → G k (val k) w')) ?_ ?_ ?_
  · have h0 : ∀ k, (Array.replicate ops.size false).getD k false ≠ true := by
      intro k hk
      rw [Array.getD_eq_getD_getElem?, Array.getElem?_replicate] at hk
      split at hk <;> simp at hk
    exact ⟨fun hk => absurd hk (h0 st), fun _ => ⟨⟨rfl, rfl, rfl, Nat.le_refl _, fun _ _ => rfl⟩, fun k hk => absurd hk (h0 k)⟩⟩
  · have key : ∀ (l : List Oper) (i : Nat), (∀ k o, l[k]? = some o → ops[i + k]? = some o) → AllIdx (EndOk P ops Q a0 w G st F) i l → AllIdx (StepOk P ops Q a0 (fun L val w' => (L.getD st false = true → (∀ k, k < ops.size → L.getD k false = true) ∧ F val w') ∧ (L.getD st false ≠ true → Below w.heap.size w w' ∧ ∀ k, L.getD k false = true → G k (val k) w'))) i l := by
      intro l
      induction l with
      | nil => intro i _ _; trivial
      | cons o l ih =>
        intro i hix h
        have hio : ops[i]? = some o := by simpa using hix 0 o rfl
        refine ⟨?_, ih (i + 1) (fun k o' hk => by have := hix (k + 1) o' (by simpa using hk); rwa [show i + 1 + k = i + (k + 1) by omega]) h.2⟩
        rintro L val a w' hsz ⟨hT, hN⟩ hu hdep hE K hK
        have hui : L.getD i false ≠ true := by
          have hi := lt_of_un hu
          rw [Array.getD_eq_getD_getElem?, Array.getElem?_eq_getElem hi] at hu ⊢
          simp only [Option.getD_some] at hu ⊢
          rw [hu]; simp
        have hnst : L.getD st false ≠ true := fun e => hui ((hT e).1 i (by rw [← hsz]; exact lt_of_un hu))
        obtain ⟨hB, hGk⟩ := hN hnst
        by_cases hi : i = st
        · subst hi
          have hall : ∀ j, j < ops.size → j ≠ i → L.getD j false = true := by
            intro j hj hne
            obtain ⟨e, he, h2, h3⟩ := hedge o hio j hj hne
            rw [← h2]
            exact hdep e he h3
          refine h.1.2 rfl val a w' hB (fun k hk hne => hGk k (hall k hk hne)) (fun j d oj hj hd hne => ?_) (fun t ht => hE.old t ht) K (fun v w'' hF => hK v w'' ⟨fun _ => ⟨fun k hk => ?_, hF⟩, fun hne => ?_⟩)
          · have hj2 : j < ops.size := by
              rcases Nat.lt_or_ge j ops.size with h5 | h5
              · exact h5
              · rw [Array.getElem?_eq_none h5] at hj; cases hj
            obtain ⟨e, he, h2, h3⟩ := hedge o hio j hj2 hne
            exact (hE.arg hdep j d hj hd (by rw [List.any_eq_true]; exact ⟨e, by simpa using he, by simp [h2, h3]⟩)).1
          · by_cases e : k = i
            · subst e
              rw [Array.getD_eq_getD_getElem?, Array.getElem?_setIfInBounds_self_of_lt (lt_of_un hu)]
              rfl
            · exact getD_set_true (hall k hk e)
          · exfalso
            apply hne
            rw [Array.getD_eq_getD_getElem?, Array.getElem?_setIfInBounds_self_of_lt (lt_of_un hu)]
            rfl
        · refine h.1.1 hi val a w' hB (fun j d oj hj hd hw => ?_) (fun t ht => hE.old t ht) K (fun v w'' hb hGi => hK v w'' ⟨fun hk => ?_, fun _ => ⟨hB.trans (hb.mono hB.size), fun k hk => ?_⟩⟩)
          · obtain ⟨h1, h2⟩ := hE.arg hdep j d hj hd hw
            exact ⟨h1, hGk j h2⟩
          · rcases on_set hk with e | e
            · exact absurd e.symm hi
            · exact absurd e hnst
          · rcases on_set hk with rfl | hk2
            · rw [upd_same]; exact hGi
            · by_cases e : k = i
              · subst e; rw [upd_same]; exact hGi
              · rw [upd_ne _ e]; exact hG k _ _ _ hb (hGk k hk2)
    exact key _ _ (fun k o hk => by rw [Nat.zero_add]; simpa using hk) hs
  · rintro L val w' hall ⟨hT, _⟩
    exact hd val w' (hT (hall st hst)).2
end
end Reg
end Go.Proofs.Ytjhigfhgchpjcaa
