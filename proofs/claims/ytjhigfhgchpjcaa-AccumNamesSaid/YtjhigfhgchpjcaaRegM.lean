/-
  A region that draws its order and whose operations only make memory, but for one store into a block of the call's own: a fact for each operation's value, kept as memory grows.
-/
import Derived.Test.YtjhigfhgchpjcaaReg
import Derived.Deep.AppendLies
namespace Go.Proofs.Ytjhigfhgchpjcaa
open Go Go.RowKit
set_option linter.unusedVariables false
set_option linter.unusedSimpArgs false
namespace Reg

section
variable {P : Program} {ops : Array Oper} {Q : Exit → Act → World → Prop}
theorem ev_tmps {a : Act} {t : Nat} {v : Value} (h : a.eval (.tmp t) = v) : a.tmps[t]?.getD undef = v := by rw [← h]; simp [Act.eval, Array.getD_eq_getD_getElem?]
theorem grown_put {a w : World} {b : Nat} (h : a.grownBy w (some b)) (i : Nat) (v : Value) : a.grownBy (w.setCell ⟨b, i, none⟩ v) (some b) :=
  ⟨h.os, h.tape, h.output, by simpa [World.setCell] using h.size, fun k hk hr => (Below.heap_setCell w ⟨b, i, none⟩ v k (fun e => hr (by rw [e]))).trans (h.block k hk hr)⟩
theorem below_grown {w w' : World} (h : Below w.heap.size w w') (row : Option Nat) : w.grownBy w' row := ⟨h.os, h.tape, h.output, h.size, fun k hk _ => h.block k hk⟩
theorem grown_tr {a b c : World} {row : Option Nat} (h : a.grownBy b row) (k : b.grownBy c row) : a.grownBy c row :=
  ⟨k.os.trans h.os, k.tape.trans h.tape, k.output.trans h.output, Nat.le_trans h.size k.size, fun i hi hr => (k.block i (Nat.lt_of_lt_of_le hi h.size) hr).trans (h.block i hi hr)⟩
/-- What is to be shown of one operation: st is the number of the one that may store into block g. -/
def MonoOk (P : Program) (ops : Array Oper) (Q : Exit → Act → World → Prop) (a0 : Act) (w0 : World) (G : Nat → Value → World → Prop) (st g : Nat) (F : World → Prop) (i : Nat) (o : Oper) : Prop :=
  ∀ (val : Nat → Value) (a : Act) (w : World), w0.grownBy w (some g) → (i = st → Below w0.heap.size w0 w) →
    (∀ j d oj, ops[j]? = some oj → oj.dst = some d → (o.after.toList.any fun e => e.on == j && Region.binds .any e) = true → a.eval (.tmp d) = val j ∧ G j (val j) w) →
    (∀ t, (ops.toList.all fun o : Oper => o.dst != some t) = true → a.eval (.tmp t) = a0.eval (.tmp t)) →
    ∀ K : Act → World → Prop, (∀ v w', (i ≠ st → Below w.heap.size w w') → (i = st → w.grownBy w' (some g) ∧ F w') → G i v w' → K (a.put o.dst v) w') →
    if Region.wanted o (yielded ops a.tmps) = true then o.wp P a w K Q else K (a.put o.dst undef) w
theorem wp_region_mono {id : Nat} {a0 : Act} {w : World} (hm : P.follows .mixedOrders = true) (hback : backB ops = true) (hdst : dstB ops a0.tmps.size = true)
    (G : Nat → Value → World → Prop) (st g : Nat) (F : World → Prop) (hG : ∀ k v w w', w.grownBy w' (some g) → G k v w → G k v w') (hF : ∀ w w', Below w.heap.size w w' → F w → F w')
    (hs : AllIdx (MonoOk P ops Q a0 w G st g F) 0 ops.toList)
    (hd : ∀ val w', w.grownBy w' (some g) → (∀ k, k < ops.size → G k (val k) w') → (st < ops.size → F w') → Q .normal (putL val 0 ops.toList a0) w') : (Code.region id ops true).wp P Q a0 w := by
  refine wp_region_val hm hback hdst (fun L val w' => w.grownBy w' (some g) ∧ (∀ k, L.getD k false = true → G k (val k) w') ∧ (L.getD st false = true → F w') ∧ (L.getD st false ≠ true → Below w.heap.size w w')) ?_ ?_ ?_
  · refine ⟨⟨rfl, rfl, rfl, Nat.le_refl _, fun _ _ _ => rfl⟩, fun k hk => ?_, fun hk => ?_, fun _ => ⟨rfl, rfl, rfl, Nat.le_refl _, fun _ _ => rfl⟩⟩
    all_goals
      exfalso
      rw [Array.getD_eq_getD_getElem?, Array.getElem?_replicate] at hk
      split at hk <;> simp at hk
  · have key : ∀ (l : List Oper) (i : Nat), AllIdx (MonoOk P ops Q a0 w G st g F) i l → AllIdx (StepOk P ops Q a0 (fun L val w' => w.grownBy w' (some g) ∧ (∀ k, L.getD k false = true → G k (val k) w') ∧ (L.getD st false = true → F w') ∧ (L.getD st false ≠ true → Below w.heap.size w w'))) i l := by
      intro l
      induction l with
      | nil => intro i _; trivial
      | cons o l ih =>
        intro i h
        refine ⟨?_, ih (i + 1) h.2⟩
        rintro L val a w' hsz ⟨hgr, hGk, hFk, hBk⟩ hu hdep hE K hK
        refine h.1 val a w' hgr (fun e => hBk (by
          subst e
          have hi := lt_of_un hu
          rw [Array.getD_eq_getD_getElem?, Array.getElem?_eq_getElem hi] at hu ⊢
          simp only [Option.getD_some] at hu ⊢
          rw [hu]
          simp)) (fun j d oj hj hd hw => ?_) (fun t ht => hE.old t ht) K (fun v w'' hb hst hGi => hK v w'' ?_)
        · obtain ⟨h1, h2⟩ := hE.arg hdep j d hj hd hw
          exact ⟨h1, hGk j h2⟩
        · have hgr2 : w'.grownBy w'' (some g) := by
            by_cases e : i = st
            · exact (hst e).1
            · exact below_grown (hb e) _
          refine ⟨grown_tr hgr hgr2, fun k hk => ?_, fun hk => ?_, fun hk => ?_⟩
          · rcases on_set hk with rfl | hk2
            · rw [upd_same]; exact hGi
            · by_cases e : k = i
              · subst e; rw [upd_same]; exact hGi
              · rw [upd_ne _ e]; exact hG k _ _ _ hgr2 (hGk k hk2)
          · by_cases e : i = st
            · exact (hst e).2
            · rcases on_set hk with e2 | hk2
              · exact absurd e2.symm e
              · exact hF _ _ (hb e) (hFk hk2)
          · by_cases e : i = st
            · exfalso
              subst e
              apply hk
              rw [Array.getD_eq_getD_getElem?, Array.getElem?_setIfInBounds_self_of_lt (lt_of_un hu)]
              rfl
            · have h1 := hBk (fun h2 => hk (getD_set_true h2))
              exact h1.trans ((hb e).mono h1.size)
    exact key _ _ hs
  · rintro L val w' hall ⟨hgr, hGk, hFk, _⟩
    exact hd val w' hgr (fun k hk => hGk k (hall k hk)) (fun hst => hFk (hall st hst))
end
end Reg
end Go.Proofs.Ytjhigfhgchpjcaa
