/-
  A region that draws its order and whose operations only make memory: a fact for each operation's value.
-/
import Derived.Test.YtjhigfhgchpjcaaRegE
namespace Go.Proofs.Ytjhigfhgchpjcaa
open Go Go.RowKit
set_option linter.unusedVariables false
set_option linter.unusedSimpArgs false
namespace Reg

section
variable {P : Program} {ops : Array Oper} {Q : Exit → Act → World → Prop}
theorem wp_region_grow {id : Nat} {a0 : Act} {w : World} (hm : P.follows .mixedOrders = true) (hback : backB ops = true) (hdst : dstB ops a0.tmps.size = true)
    (G : Nat → Value → World → Prop) (hG : ∀ k v w w', Below w.heap.size w w' → G k v w → G k v w')
    (hs : AllIdx (GrowOk P ops Q a0 w G) 0 ops.toList)
    (hd : ∀ val w', Below w.heap.size w w' → (∀ k, k < ops.size → G k (val k) w') → Q .normal (putL val 0 ops.toList a0) w') : (Code.region id ops true).wp P Q a0 w := by
  refine wp_region_val hm hback hdst (fun L val w' => Below w.heap.size w w' ∧ ∀ k, L.getD k false = true → G k (val k) w') ?_ ?_ ?_
  · refine ⟨⟨rfl, rfl, rfl, Nat.le_refl _, fun _ _ => rfl⟩, fun k hk => ?_⟩
    exfalso
    rw [Array.getD_eq_getD_getElem?, Array.getElem?_replicate] at hk
    split at hk <;> simp at hk
  · have key : ∀ (l : List Oper) (i : Nat), AllIdx (GrowOk P ops Q a0 w G) i l → AllIdx (StepOk P ops Q a0 (fun L val w' => Below w.heap.size w w' ∧ ∀ k, L.getD k false = true → G k (val k) w')) i l := by
      intro l
      induction l with
      | nil => intro i _; trivial
      | cons o l ih =>
        intro i h
        refine ⟨?_, ih (i + 1) h.2⟩
        rintro L val a w' hsz ⟨hB, hGk⟩ hu hdep hE K hK
        refine h.1 val a w' hB (fun j d oj hj hd hw => ?_) (fun t ht => hE.old t ht) K (fun v w'' hb hGi => hK v w'' ⟨hB.trans (hb.mono hB.size), fun k hk => ?_⟩)
        · obtain ⟨h1, h2⟩ := hE.arg hdep j d hj hd hw
          exact ⟨h1, hGk j h2⟩
        · rcases on_set hk with rfl | hk2
          · rw [upd_same]; exact hGi
          · by_cases e : k = i
            · subst e; rw [upd_same]; exact hGi
            · rw [upd_ne _ e]; exact hG k _ _ _ hb (hGk k hk2)
    exact key _ _ hs
  · rintro L val w' hall ⟨hB, hGk⟩
    exact hd val w' hB (fun k hk => hGk k (hall k hk))
end
end Reg
end Go.Proofs.Ytjhigfhgchpjcaa
