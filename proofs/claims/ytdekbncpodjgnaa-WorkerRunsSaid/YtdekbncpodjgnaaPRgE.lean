/-
  A region that draws its order and whose operations only make memory, but for the last one, which stands behind all others and may store.
  'append([]T{}, l...)' as one step of a region that draws, for any kind of elements; rows as facts of a region.
-/
import Derived.Test.YtdekbncpodjgnaaPRg
import Derived.Test.YtdekbncpodjgnaaAppend
import Derived.Test.YtdekbncpodjgnaaRets
import Derived.Deep.RegionLawGrows
namespace Go.Proofs.Ytdekbncpodjgnaa
open Go Go.RowKit
set_option linter.unusedVariables false
set_option linter.unusedSimpArgs false
namespace Reg

section
variable {P : Program} {ops : Array Oper} {Q : Exit → Act → World → Prop}
/-- The operation st stands behind all others. -/
def endB (ops : Array Oper) (st : Nat) : Bool :=
  match ops[st]? with
  | none => false
  | some o => (List.range ops.size).all fun j => j == st || o.after.toList.any fun e => e.on == j && Region.binds .any e
/-- What is to be shown of an operation that makes memory at most. -/
def GrowOk (P : Program) (ops : Array Oper) (Q : Exit → Act → World → Prop) (a0 : Act) (w0 : World) (G : Nat → Value → World → Prop) (i : Nat) (o : Oper) : Prop :=
  ∀ (val : Nat → Value) (a : Act) (w : World), Below w0.heap.size w0 w →
    (∀ j d oj, ops[j]? = some oj → oj.dst = some d → (o.after.toList.any fun e => e.on == j && Region.binds .any e) = true → a.eval (.tmp d) = val j ∧ G j (val j) w) →
    (∀ t, (ops.toList.all fun o : Oper => o.dst != some t) = true → a.eval (.tmp t) = a0.eval (.tmp t)) →
    ∀ K : Act → World → Prop, (∀ v w', Below w.heap.size w w' → G i v w' → K (a.put o.dst v) w') →
    if Region.wanted o (yielded ops a.tmps) = true then o.wp P a w K Q else K (a.put o.dst undef) w
/-- What is to be shown of the last operation. -/
def LastOk (P : Program) (ops : Array Oper) (Q : Exit → Act → World → Prop) (a0 : Act) (w0 : World) (G : Nat → Value → World → Prop) (F : (Nat → Value) → World → Prop) (i : Nat) (o : Oper) : Prop :=
  ∀ (val : Nat → Value) (a : Act) (w : World), Below w0.heap.size w0 w → (∀ k, k < ops.size → k ≠ i → G k (val k) w) →
    (∀ j d oj, ops[j]? = some oj → oj.dst = some d → j ≠ i → a.eval (.tmp d) = val j) →
    (∀ t, (ops.toList.all fun o : Oper => o.dst != some t) = true → a.eval (.tmp t) = a0.eval (.tmp t)) →
    ∀ K : Act → World → Prop, (∀ v w', F (upd val i v) w' → K (a.put o.dst v) w') →
    if Region.wanted o (yielded ops a.tmps) = true then o.wp P a w K Q else K (a.put o.dst undef) w
def EndOk (P : Program) (ops : Array Oper) (Q : Exit → Act → World → Prop) (a0 : Act) (w0 : World) (G : Nat → Value → World → Prop) (st : Nat) (F : (Nat → Value) → World → Prop) (i : Nat) (o : Oper) : Prop :=
  (i ≠ st → GrowOk P ops Q a0 w0 G i o) ∧ (i = st → LastOk P ops Q a0 w0 G F i o)
theorem EndOk.grow {a0 : Act} {w0 : World} {G : Nat → Value → World → Prop} {st : Nat} {F : (Nat → Value) → World → Prop} {i : Nat} {o : Oper} (h : GrowOk P ops Q a0 w0 G i o) (hi : i ≠ st) : EndOk P ops Q a0 w0 G st F i o := ⟨fun _ => h, fun e => absurd e hi⟩
theorem EndOk.last {a0 : Act} {w0 : World} {G : Nat → Value → World → Prop} {F : (Nat → Value) → World → Prop} {i : Nat} {o : Oper} (h : LastOk P ops Q a0 w0 G F i o) : EndOk P ops Q a0 w0 G i F i o := ⟨fun e => absurd rfl e, fun _ => h⟩
theorem wp_region_end {id : Nat} {a0 : Act} {w : World} (hm : P.follows .mixedOrders = true) (hback : backB ops = true) (hdst : dstB ops a0.tmps.size = true)
    (G : Nat → Value → World → Prop) (st : Nat) (F : (Nat → Value) → World → Prop) (hend : endB ops st = true) (hG : ∀ k v w w', Below w.heap.size w w' → G k v w → G k v w')
    (hs : AllIdx (EndOk P ops Q a0 w G st F) 0 ops.toList)
    (hd : ∀ val w', F val w' → Q .normal (putL val 0 ops.toList a0) w') : (Code.region id ops true).wp P Q a0 w := by
  have hst : st < ops.size := by
    unfold endB at hend
    rcases Nat.lt_or_ge st ops.size with h | h
    · exact h
    · rw [Array.getElem?_eq_none h] at hend; cases hend
  have hedge : ∀ o, ops[st]? = some o → ∀ j, j < ops.size → j ≠ st → ∃ e ∈ o.after, e.on = j ∧ Region.binds .any e = true := by
    intro o ho j hj hne
    unfold endB at hend
    rw [ho] at hend
    have h1 := List.all_eq_true.1 hend j (by simpa using hj)
    simp only [Bool.or_eq_true, beq_iff_eq, hne, false_or, List.any_eq_true, Bool.and_eq_true] at h1
    obtain ⟨e, he, h2, h3⟩ := h1
    exact ⟨e, by simpa using he, h2, h3⟩
  refine wp_region_val hm hback hdst (fun L val w' => (L.getD st false = true → (∀ k, k < ops.size → L.getD k false = true) ∧ F val w') ∧ (L.getD st false ≠ true → Below w.heap.size w w' ∧ ∀ k, L.getD k false = true → G k (val k) w')) ?_ ?_ ?_
  · have h0 : ∀ k, (Array.replicate ops.size false).getD k false ≠ true := by
      intro k hk
      rw [Array.getD_eq_getD_getElem?, Array.getElem?_replicate] at hk
      split at hk <;> simp at hk
    exact ⟨fun hk => absurd hk (h0 st), fun _ => ⟨⟨rfl, rfl, rfl, Nat.le_refl _, fun _ _ => rfl⟩, fun k hk => absurd hk (h0 k)⟩⟩
  · have key : ∀ (l : List Oper) (i : Nat), (∀ k o, l[k]? = some o → ops[i + k]? = some o) → AllIdx (EndOk P ops Q a0 w G st F) i l → AllIdx (StepOk P ops Q a0 (fun L val w' => (L.getD st false = true → (∀ k, k < ops.size → L.getD k false = true) ∧ F val w') ∧ (L.getD st false ≠ true → Below w.heap.size w w' ∧ ∀ k, L.getD k false = true → G k (val k) w'))) i l := by
      intro l
      induction l with
      | nil => intro i _ _; trivial
      | cons o l ih =>
        intro i hix h
        have hio : ops[i]? = some o := by simpa using hix 0 o rfl
        refine ⟨?_, ih (i + 1) (fun k o' hk => by have := hix (k + 1) o' (by simpa using hk); rwa [show i + 1 + k = i + (k + 1) by omega]) h.2⟩
        rintro L val a w' hsz ⟨hT, hN⟩ hu hdep hE K hK
        have hui : L.getD i false ≠ true := by
          have hi := lt_of_un hu
          rw [Array.getD_eq_getD_getElem?, Array.getElem?_eq_getElem hi] at hu ⊢
          simp only [Option.getD_some] at hu ⊢
          rw [hu]; simp
        have hnst : L.getD st false ≠ true := fun e => hui ((hT e).1 i (by rw [← hsz]; exact lt_of_un hu))
        obtain ⟨hB, hGk⟩ := hN hnst
        by_cases hi : i = st
        · subst hi
          have hall : ∀ j, j < ops.size → j ≠ i → L.getD j false = true := by
            intro j hj hne
            obtain ⟨e, he, h2, h3⟩ := hedge o hio j hj hne
            rw [← h2]
            exact hdep e he h3
          refine h.1.2 rfl val a w' hB (fun k hk hne => hGk k (hall k hk hne)) (fun j d oj hj hd hne => ?_) (fun t ht => hE.old t ht) K (fun v w'' hF => hK v w'' ⟨fun _ => ⟨fun k hk => ?_, hF⟩, fun hne => ?_⟩)
          · have hj2 : j < ops.size := by
              rcases Nat.lt_or_ge j ops.size with h5 | h5
              · exact h5
              · rw [Array.getElem?_eq_none h5] at hj; cases hj
            obtain ⟨e, he, h2, h3⟩ := hedge o hio j hj2 hne
            exact (hE.arg hdep j d hj hd (by rw [List.any_eq_true]; exact ⟨e, by simpa using he, by simp [h2, h3]⟩)).1
          · by_cases e : k = i
            · subst e
              rw [Array.getD_eq_getD_getElem?, Array.getElem?_setIfInBounds_self_of_lt (lt_of_un hu)]
              rfl
            · exact getD_set_true (hall k hk e)
          · exfalso
            apply hne
            rw [Array.getD_eq_getD_getElem?, Array.getElem?_setIfInBounds_self_of_lt (lt_of_un hu)]
            rfl
        · refine h.1.1 hi val a w' hB (fun j d oj hj hd hw => ?_) (fun t ht => hE.old t ht) K (fun v w'' hb hGi => hK v w'' ⟨fun hk => ?_, fun _ => ⟨hB.trans (hb.mono hB.size), fun k hk => ?_⟩⟩)
          · obtain ⟨h1, h2⟩ := hE.arg hdep j d hj hd hw
            exact ⟨h1, hGk j h2⟩
          · rcases on_set hk with e | e
            · exact absurd e.symm hi
            · exact absurd e hnst
          · rcases on_set hk with rfl | hk2
            · rw [upd_same]; exact hGi
            · by_cases e : k = i
              · subst e; rw [upd_same]; exact hGi
              · rw [upd_ne _ e]; exact hG k _ _ _ hb (hGk k hk2)
    exact key _ _ (fun k o hk => by rw [Nat.zero_add]; simpa using hk) hs
  · rintro L val w' hall ⟨hT, _⟩
    exact hd val w' (hT (hall st hst)).2
end
end Reg
end Go.Proofs.Ytdekbncpodjgnaa
namespace Go.Proofs.Ytdekbncpodjgnaa
open Go Go.RowKit
set_option linter.unusedVariables false
set_option linter.unusedSimpArgs false
namespace Reg

theorem below_none {w w' : World} (h : w.grownBy w' none) : Below w.heap.size w w' := ⟨h.os, h.tape, h.output, h.size, fun k hk => h.block k hk (by simp)⟩
/-- The elements of a slice stand in memory. -/
def News {α : Type} (enc : α → List Value) (w : World) (A : Option Addr) (l : List α) : Prop :=
  0 < l.length → ∃ b off, A = some ⟨b, off, none⟩ ∧ ∀ j u, (l.flatMap enc)[j]? = some u → w.cell? ⟨b, off + j, none⟩ = some u
theorem news_RI {k : IntKind} {w : World} {A : Option Addr} {l : List Int} (h : RI k w A l) : News (encI k) w A l := by
  intro h0
  obtain ⟨b, off, e, _, hc⟩ := h h0
  refine ⟨b, off, e, fun j u hu => ?_⟩
  have hj : j < l.length := by
    have := (List.getElem?_eq_some_iff.1 hu).1
    rwa [flat_len (encI k) 1 (encI_len k), Nat.mul_one] at this
  have h1 := flat_get (encI k) 1 (encI_len k) l j 0 (by omega) hj
  rw [Nat.mul_one, Nat.add_zero, hu] at h1
  rw [hc j hj, getD_lt _ _ hj]
  simpa [encI] using h1.symm
/-- A slice that was made: its row is owned. -/
def Made {α : Type} (enc : α → List Value) (e : TypeId) (sz B : Nat) (l : List α) (A : Option Addr) (c : Nat) (w : World) : Prop :=
  l.length ≤ c ∧ (l = [] ∨ w.ownsRow B e sz (.slice A l.length c) l.length (l.flatMap enc))
theorem Made.keep {α : Type} {enc : α → List Value} {e : TypeId} {sz B : Nat} {l : List α} {A : Option Addr} {c : Nat} {w w' : World} (h : Made enc e sz B l A c w) (hb : Below w.heap.size w w') : Made enc e sz B l A c w' := by
  refine ⟨h.1, ?_⟩
  rcases h.2 with h1 | h1
  · exact .inl h1
  · exact .inr (own_keep h1 hb)
theorem Made.ri {k : IntKind} {e : TypeId} {B : Nat} {l : List Int} {A : Option Addr} {c : Nat} {w : World} (h : Made (encI k) e 1 B l A c w) : RI k w A l := by
  rcases h.2 with rfl | h1
  · exact RI.nil
  · exact own_RI h1
/-- A store into a block of another type leaves it. -/
theorem Made.far {α : Type} {enc : α → List Value} {e : TypeId} {sz B : Nat} {l : List α} {A : Option Addr} {c : Nat} {w : World} (h : Made enc e sz B l A c w) {p : Addr} {cs : Array Value} {t : TypeId} (hp : Blk w p.block t cs) (hne : e ≠ t) (u : Value) : Made enc e sz B l A c (w.setCell p u) := by
  refine ⟨h.1, ?_⟩
  rcases h.2 with h1 | h1
  · exact .inl h1
  · refine .inr ⟨h1.1, ?_⟩
    rcases h1.2 with h2 | ⟨g, cap, cur, h2, h3, h4, h5⟩
    · exact .inl h2
    · refine .inr ⟨g, cap, cur, h2, h3, ?_, h5⟩
      have hgp : g ≠ p.block := by
        intro e2
        unfold Blk at hp
        rw [← e2, h4] at hp
        injection hp with hp
        injection hp with _ h6
        exact hne h6
      rw [Below.heap_setCell w p u g hgp]
      exact h4
def emptyV (B : Nat) (v : Value) : Prop := ∃ g, v = .slice (some ⟨g, 0, none⟩) 0 0 ∧ B ≤ g
/-- 'append([]T{}, l...)' as one step of a region that draws. -/
theorem step_clone_G {P : Program} {w : World} {ops : Array Oper} {o : Oper} {a : Act} {K : Act → World → Prop} {Q : Exit → Act → World → Prop} {E : Prop} (hgd : o.guard = none) (s x : Operand) (t : TypeId)
    (ho : o.op = .call { callee := .builtin .append, args := #[s, x], argTypes := #[t, t] })
    (e : TypeId) {i : TypeInfo} {z : Value} (sz bytes : Nat) (ht : P.underlying t = some (.slice e)) (hi : P.info? e = some i) (hz : i.zero = some z)
    (hsize : i.size = sz) (hby : i.bytes = bytes) (hzs : z.cells.size = sz) (h1 : 1 ≤ sz) {α : Type} (enc : α → List Value) (henc : ∀ x, (enc x).length = sz) (hone : ∀ y, ∀ u ∈ enc y, u.oneCell' = true) (B : Nat) (v : Value) (hs : a.eval s = v) (hv : emptyV B v) (hB : B ≤ w.heap.size)
    (A : Option Addr) (c : Nat) (l : List α) (hx : a.eval x = .slice A l.length c) (hr : News enc w A l) (h63 : l.length ≤ maxLen) (hbytes : l.length * bytes ≤ 140737488355328)
    (h : ∀ A' c' w', Made enc e sz B l A' c' w' → Below w.heap.size w w' → K (a.put o.dst (.slice A' l.length c')) w') :
    if Region.wanted o (yielded ops a.tmps) = true then Oper.wp P o a w K Q else E := by
  obtain ⟨g, rfl, hg⟩ := hv
  by_cases h0 : l.length = 0
  · have hw : Region.wanted o (yielded ops a.tmps) = true := by simp [Region.wanted, hgd]
    rw [if_pos hw]
    have hl : l = [] := List.length_eq_zero_iff.1 h0
    subst hl
    have hrun : (Builtin.append_ #[t, t] o.type #[.slice (some ⟨g, 0, none⟩) 0 0, .slice A 0 c]).run P w = .ok (.slice (some ⟨g, 0, none⟩) 0 0) w := by
      cases A <;> simp [Builtin.append_, run_underlying ht, sizeOf, typeInfo, hi, Builtin.lenOf, Builtin.firstCells, storeCells, loadCells, loadCellsFrom]
    unfold Oper.wp
    simp [execOp, ho, resolve, invoke, builtin, hs, hx, hrun, Result.andThen]
    exact h (some ⟨g, 0, none⟩) 0 w ⟨Nat.le_refl _, .inl rfl⟩ (Below.refl _ _)
  · obtain ⟨b, off, rfl, hc⟩ := hr (by omega)
    refine step_append_grows hgd s x t ho e i z sz bytes ht hi hz hsize hby hzs h1 (some ⟨g, 0, none⟩) 0 0 [] hs (by intro h; cases h) (by simp) (by simp) ⟨b, off, none⟩ l.length c (l.flatMap enc) hx (by rw [flat_len enc sz henc]) (by
        intro j u hu
        have e2 : (⟨b, off, none⟩ : Addr).add j = ⟨b, off + j, none⟩ := by unfold Addr.add; split <;> simp_all
        rw [e2]
        exact hc j u hu) (by
        intro u hu
        obtain ⟨y, _, hy⟩ := List.mem_flatMap.1 hu
        exact hone y u hy) (by omega) (by omega) (by simpa using hbytes) ?_
    intro v' w' hown hgrow
    rw [Nat.zero_add, List.nil_append] at hown
    obtain ⟨A', c', rfl, hc'⟩ := own_shape' hown
    refine h A' c' w' ⟨hc', .inr ⟨hown.1, ?_⟩⟩ (below_none hgrow)
    rcases hown.2 with h2 | ⟨g', cap, cur, h2, h3, h4⟩
    · exact .inl h2
    · exact .inr ⟨g', cap, cur, h2, by omega, h4⟩
end Reg
end Go.Proofs.Ytdekbncpodjgnaa
