/-
  A region that draws its order, whose operations make memory, one of which may store, and some of which may stand behind that one.
-/
import Derived.Test.YtjhigfhgchpjcaaRegE
namespace Go.Proofs.Ytjhigfhgchpjcaa
open Go Go.RowKit
set_option linter.unusedVariables false
set_option linter.unusedSimpArgs false
namespace Reg

section
variable {P : Program} {ops : Array Oper} {Q : Exit → Act → World → Prop}
/-- The operation st stands behind all others but those that are named. -/
def midB (ops : Array Oper) (st : Nat) (post : Nat → Bool) : Bool :=
  match ops[st]? with
  | none => false
  | some o => (List.range ops.size).all fun j => j == st || post j || o.after.toList.any fun e => e.on == j && Region.binds .any e
/-- What is to be shown of an operation that may stand behind the store. -/
def PostOk (P : Program) (ops : Array Oper) (Q : Exit → Act → World → Prop) (a0 : Act) (Pv : Nat → Value → Prop) (i : Nat) (o : Oper) : Prop :=
  ∀ (val : Nat → Value) (a : Act) (w : World),
    (∀ j d oj, ops[j]? = some oj → oj.dst = some d → (o.after.toList.any fun e => e.on == j && Region.binds .any e) = true → a.eval (.tmp d) = val j ∧ Pv j (val j)) →
    (∀ t, (ops.toList.all fun o : Oper => o.dst != some t) = true → a.eval (.tmp t) = a0.eval (.tmp t)) →
    ∀ K : Act → World → Prop, (∀ v, Pv i v → K (a.put o.dst v) w) →
    if Region.wanted o (yielded ops a.tmps) = true then o.wp P a w K Q else K (a.put o.dst undef) w
def StOk (P : Program) (ops : Array Oper) (Q : Exit → Act → World → Prop) (a0 : Act) (w0 : World) (G : Nat → Value → World → Prop) (Pv : Nat → Value → Prop) (F : (Nat → Value) → World → Prop) (post : Nat → Bool) (i : Nat) (o : Oper) : Prop :=
  ∀ (val : Nat → Value) (a : Act) (w : World), Below w0.heap.size w0 w → (∀ k, k < ops.size → k ≠ i → post k = false → G k (val k) w) →
    (∀ j d oj, ops[j]? = some oj → oj.dst = some d → j ≠ i → post j = false → a.eval (.tmp d) = val j) →
    (∀ t, (ops.toList.all fun o : Oper => o.dst != some t) = true → a.eval (.tmp t) = a0.eval (.tmp t)) →
    ∀ K : Act → World → Prop, (∀ v w', F (upd val i v) w' → Pv i v → K (a.put o.dst v) w') →
    if Region.wanted o (yielded ops a.tmps) = true then o.wp P a w K Q else K (a.put o.dst undef) w
def MidOk (P : Program) (ops : Array Oper) (Q : Exit → Act → World → Prop) (a0 : Act) (w0 : World) (G : Nat → Value → World → Prop) (Pv : Nat → Value → Prop) (st : Nat) (F : (Nat → Value) → World → Prop) (post : Nat → Bool) (i : Nat) (o : Oper) : Prop :=
  (i ≠ st → GrowOk P ops Q a0 w0 G i o) ∧ (i = st → StOk P ops Q a0 w0 G Pv F post i o) ∧ (post i = true → PostOk P ops Q a0 Pv i o)
theorem MidOk.grow {a0 : Act} {w0 : World} {G : Nat → Value → World → Prop} {Pv : Nat → Value → Prop} {st : Nat} {F : (Nat → Value) → World → Prop} {post : Nat → Bool} {i : Nat} {o : Oper} (h : GrowOk P ops Q a0 w0 G i o) (hi : i ≠ st) (hp : post i = false) : MidOk P ops Q a0 w0 G Pv st F post i o := ⟨fun _ => h, fun e => absurd e hi, fun e => by rw [hp] at e; cases e⟩
theorem MidOk.both {a0 : Act} {w0 : World} {G : Nat → Value → World → Prop} {Pv : Nat → Value → Prop} {st : Nat} {F : (Nat → Value) → World → Prop} {post : Nat → Bool} {i : Nat} {o : Oper} (h : GrowOk P ops Q a0 w0 G i o) (h2 : PostOk P ops Q a0 Pv i o) (hi : i ≠ st) : MidOk P ops Q a0 w0 G Pv st F post i o := ⟨fun _ => h, fun e => absurd e hi, fun _ => h2⟩
theorem MidOk.store {a0 : Act} {w0 : World} {G : Nat → Value → World → Prop} {Pv : Nat → Value → Prop} {F : (Nat → Value) → World → Prop} {post : Nat → Bool} {i : Nat} {o : Oper} (h : StOk P ops Q a0 w0 G Pv F post i o) (hp : post i = false) : MidOk P ops Q a0 w0 G Pv i F post i o := ⟨fun e => absurd rfl e, fun _ => h, fun e => by rw [hp] at e; cases e⟩
theorem wp_region_mid {id : Nat} {a0 : Act} {w : World} (hm : P.follows .mixedOrders = true) (hback : backB ops = true) (hdst : dstB ops a0.tmps.size = true)
    (G : Nat → Value → World → Prop) (Pv : Nat → Value → Prop) (st : Nat) (F : (Nat → Value) → World → Prop) (post : Nat → Bool) (hmid : midB ops st post = true) (hG : ∀ k v w w', Below w.heap.size w w' → G k v w → G k v w')
    (hGP : ∀ k v w, G k v w → Pv k v) (hFu : ∀ val i v w, post i = true → F val w → F (upd val i v) w)
    (hs : AllIdx (MidOk P ops Q a0 w G Pv st F post) 0 ops.toList)
    (hd : ∀ val w', F val w' → (∀ k, k < ops.size → Pv k (val k)) → Q .normal (putL val 0 ops.toList a0) w') : (Code.region id ops true).wp P Q a0 w := by
  have hst : st < ops.size := by
    unfold midB at hmid
    rcases Nat.lt_or_ge st ops.size with h | h
    · exact h
    · rw [Array.getElem?_eq_none h] at hmid; cases hmid
  have hedge : ∀ o, ops[st]? = some o → ∀ j, j < ops.size → j ≠ st → post j = false → ∃ e ∈ o.after, e.on = j ∧ Region.binds .any e = true := by
    intro o ho j hj hne hp
    unfold midB at hmid
    rw [ho] at hmid
    have h1 := List.all_eq_true.1 hmid j (by simpa using hj)
    simp only [hp, Bool.or_false, Bool.or_eq_true, beq_iff_eq, hne, false_or, List.any_eq_true, Bool.and_eq_true] at h1
    obtain ⟨e, he, h2, h3⟩ := h1
    exact ⟨e, by simpa using he, h2, h3⟩
  refine wp_region_val hm hback hdst (fun L val w' => (L.getD st false = true → F val w' ∧ (∀ k, k < ops.size → k ≠ st → post k = false → L.getD k false = true) ∧ ∀ k, L.getD k false = true → Pv k (val k)) ∧ (L.getD st false ≠ true → Below w.heap.size w w' ∧ ∀ k, L.getD k false = true → G k (val k) w')) ?_ ?_ ?_
  · have h0 : ∀ k, (Array.replicate ops.size false).getD k false ≠ true := by
      intro k hk
      rw [Array.getD_eq_getD_getElem?, Array.getElem?_replicate] at hk
      split at hk <;> simp at hk
    exact ⟨fun hk => absurd hk (h0 st), fun _ => ⟨⟨rfl, rfl, rfl, Nat.le_refl _, fun _ _ => rfl⟩, fun k hk => absurd hk (h0 k)⟩⟩
  · have key : ∀ (l : List Oper) (i : Nat), (∀ k o, l[k]? = some o → ops[i + k]? = some o) → AllIdx (MidOk P ops Q a0 w G Pv st F post) i l → AllIdx (StepOk P ops Q a0 (fun L val w' => (L.getD st false = true → F val w' ∧ (∀ k, k < ops.size → k ≠ st → post k = false → L.getD k false = true) ∧ ∀ k, L.getD k false = true → Pv k (val k)) ∧ (L.getD st false ≠ true → Below w.heap.size w w' ∧ ∀ k, L.getD k false = true → G k (val k) w'))) i l := by
      intro l
      induction l with
      | nil => intro i _ _; trivial
      | cons o l ih =>
        intro i hix h
        have hio : ops[i]? = some o := by simpa using hix 0 o rfl
        refine ⟨?_, ih (i + 1) (fun k o' hk => by have := hix (k + 1) o' (by simpa using hk); rwa [show i + 1 + k = i + (k + 1) by omega]) h.2⟩
        rintro L val a w' hsz ⟨hT, hN⟩ hu hdep hE K hK
        have hiL := lt_of_un hu
        have hui : L.getD i false ≠ true := by
          rw [Array.getD_eq_getD_getElem?, Array.getElem?_eq_getElem hiL] at hu ⊢
          simp only [Option.getD_some] at hu ⊢
          rw [hu]; simp
        have hself : (L.setIfInBounds i true).getD i false = true := by
          rw [Array.getD_eq_getD_getElem?, Array.getElem?_setIfInBounds_self_of_lt hiL]
          rfl
        by_cases hs9 : L.getD st false = true
        · obtain ⟨hF, hall, hP⟩ := hT hs9
          have hne : i ≠ st := by rintro rfl; exact hui hs9
          have hpi : post i = true := by
            cases hp : post i
            · exact absurd (hall i (by rw [← hsz]; exact hiL) hne hp) hui
            · rfl
          refine h.1.2.2 hpi val a w' (fun j d oj hj hd hw => ?_) (fun t ht => hE.old t ht) K (fun v hPv => hK v w' ⟨fun _ => ⟨hFu _ _ _ _ hpi hF, fun k hk h1 h2 => getD_set_true (hall k hk h1 h2), fun k hk => ?_⟩, fun hn => ?_⟩)
          · obtain ⟨h1, h2⟩ := hE.arg hdep j d hj hd hw
            exact ⟨h1, hP j h2⟩
          · rcases on_set hk with rfl | hk2
            · rw [upd_same]; exact hPv
            · by_cases e : k = i
              · subst e; rw [upd_same]; exact hPv
              · rw [upd_ne _ e]; exact hP k hk2
          · exact absurd (getD_set_true hs9) hn
        · obtain ⟨hB, hGk⟩ := hN hs9
          by_cases hi : i = st
          · subst hi
            have hall : ∀ j, j < ops.size → j ≠ i → post j = false → L.getD j false = true := by
              intro j hj hne hp
              obtain ⟨e, he, h2, h3⟩ := hedge o hio j hj hne hp
              rw [← h2]
              exact hdep e he h3
            refine h.1.2.1 rfl val a w' hB (fun k hk hne hp => hGk k (hall k hk hne hp)) (fun j d oj hj hd hne hp => ?_) (fun t ht => hE.old t ht) K (fun v w'' hF hPv => hK v w'' ⟨fun _ => ⟨hF, fun k hk h1 h2 => getD_set_true (hall k hk h1 h2), fun k hk => ?_⟩, fun hn => absurd hself hn⟩)
            · have hj2 : j < ops.size := by
                rcases Nat.lt_or_ge j ops.size with h5 | h5
                · exact h5
                · rw [Array.getElem?_eq_none h5] at hj; cases hj
              obtain ⟨e, he, h2, h3⟩ := hedge o hio j hj2 hne hp
              exact (hE.arg hdep j d hj hd (by rw [List.any_eq_true]; exact ⟨e, by simpa using he, by simp [h2, h3]⟩)).1
            · rcases on_set hk with rfl | hk2
              · rw [upd_same]; exact hPv
              · by_cases e : k = i
                · subst e; rw [upd_same]; exact hPv
                · rw [upd_ne _ e]; exact hGP k _ _ (hGk k hk2)
          · refine h.1.1 hi val a w' hB (fun j d oj hj hd hw => ?_) (fun t ht => hE.old t ht) K (fun v w'' hb hGi => hK v w'' ⟨fun hk => ?_, fun _ => ⟨hB.trans (hb.mono hB.size), fun k hk => ?_⟩⟩)
            · obtain ⟨h1, h2⟩ := hE.arg hdep j d hj hd hw
              exact ⟨h1, hGk j h2⟩
            · rcases on_set hk with e | e
              · exact absurd e.symm hi
              · exact absurd e hs9
            · rcases on_set hk with rfl | hk2
              · rw [upd_same]; exact hGi
              · by_cases e : k = i
                · subst e; rw [upd_same]; exact hGi
                · rw [upd_ne _ e]; exact hG k _ _ _ hb (hGk k hk2)
    exact key _ _ (fun k o hk => by rw [Nat.zero_add]; simpa using hk) hs
  · rintro L val w' hall ⟨hT, _⟩
    obtain ⟨hF, _, hP⟩ := hT (hall st hst)
    exact hd val w' hF (fun k hk => hP k (hall k hk))
end
end Reg
end Go.Proofs.Ytjhigfhgchpjcaa
