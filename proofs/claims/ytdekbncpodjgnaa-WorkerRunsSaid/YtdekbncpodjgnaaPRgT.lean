/-
  A region that draws its order, only makes memory, and whose operations each yield a value known beforehand: a table of the values, guards decided by the table.
  Tables of a region that draws: one short lemma for each kind of operation.
-/
import Derived.Test.YtdekbncpodjgnaaPRg
namespace Go.Proofs.Ytdekbncpodjgnaa
open Go Go.RowKit
set_option linter.unusedVariables false
set_option linter.unusedSimpArgs false
namespace Reg

section
variable {P : Program} {ops : Array Oper} {Q : Exit → Act → World → Prop}
theorem grown_below {w w' : World} (h : w.grownBy w' (some w.heap.size)) : Below w.heap.size w w' :=
  ⟨h.os, h.tape, h.output, h.size, fun k hk => h.block k hk (fun e => by cases e; omega)⟩
theorem putL_congr (v1 v2 : Nat → Value) (l : List Oper) : ∀ (i : Nat) (a : Act), (∀ k, i ≤ k → k < i + l.length → v1 k = v2 k) → putL v1 i l a = putL v2 i l a := by
  induction l with
  | nil => intro i a _; rfl
  | cons o l ih =>
    intro i a h
    simp only [putL]
    rw [h i (Nat.le_refl _) (by simp)]
    exact ih (i + 1) _ (fun k h1 h2 => h k (by omega) (by simp; omega))
/-- The guard, by the table. -/
def wantT (T : Nat → Value) (o : Oper) : Bool :=
  match o.guard with
  | none => true
  | some (j, b) => match T j with | .bool b' => b' == b | _ => false
/-- A guard's operation stands before, and yields. -/
def guardB (ops : Array Oper) : Bool := ops.toList.all fun o => match o.guard with
  | none => true
  | some (j, _) => (o.after.toList.any fun e => e.on == j && Region.binds .any e) && ((ops[j]?).bind (·.dst)).isSome
theorem wanted_tab {T : Nat → Value} {o : Oper} {a : Act} (hg : (match o.guard with | none => true | some (j, _) => (o.after.toList.any fun e => e.on == j && Region.binds .any e) && ((ops[j]?).bind (·.dst)).isSome) = true)
    (hdep : ∀ j d oj, ops[j]? = some oj → oj.dst = some d → (o.after.toList.any fun e => e.on == j && Region.binds .any e) = true → a.eval (.tmp d) = T j) : Region.wanted o (yielded ops a.tmps) = wantT T o := by
  unfold Region.wanted wantT
  cases h : o.guard with
  | none => rfl
  | some jb =>
    obtain ⟨j, b⟩ := jb
    rw [h] at hg
    simp only [Bool.and_eq_true] at hg
    obtain ⟨h1, h2⟩ := hg
    cases ho : ops[j]? with
    | none => rw [ho] at h2; simp at h2
    | some oj =>
      rw [ho] at h2
      cases hd : oj.dst with
      | none => simp [hd] at h2
      | some d =>
        have e := hdep j d oj ho hd h1
        have e2 := ev_tmps e
        unfold yielded
        simp only [ho, Option.bind_some, hd]
        cases ht : a.tmps[d]? with
        | none =>
          rw [ht] at e2
          simp only [Option.getD_none] at e2
          rw [← e2]
          simp [undef]
        | some v =>
          rw [ht] at e2
          simp only [Option.getD_some] at e2
          subst e2
          cases T j <;> simp
/-- What is to be shown of one operation. -/
def TabOk (P : Program) (ops : Array Oper) (Q : Exit → Act → World → Prop) (a0 : Act) (w0 : World) (T : Nat → Value) (i : Nat) (o : Oper) : Prop :=
  if wantT T o = true then
  ∀ (a : Act) (w : World), Below w0.heap.size w0 w →
    (∀ j d oj, ops[j]? = some oj → oj.dst = some d → (o.after.toList.any fun e => e.on == j && Region.binds .any e) = true → a.eval (.tmp d) = T j) →
    (∀ t, (ops.toList.all fun o : Oper => o.dst != some t) = true → a.eval (.tmp t) = a0.eval (.tmp t)) →
    ∀ K : Act → World → Prop, (∀ w', Below w.heap.size w w' → K (a.put o.dst (T i)) w') → o.wp P a w K Q
  else T i = undef
theorem wp_region_tab {id : Nat} {a0 : Act} {w : World} (hm : P.follows .mixedOrders = true) (hback : backB ops = true) (hdst : dstB ops a0.tmps.size = true) (hgd : guardB ops = true)
    (T : Nat → Value) (hs : AllIdx (TabOk P ops Q a0 w T) 0 ops.toList)
    (hd : ∀ w', Below w.heap.size w w' → Q .normal (putL T 0 ops.toList a0) w') : (Code.region id ops true).wp P Q a0 w := by
  refine wp_region_mono hm hback hdst (fun k v _ => v = T k) ops.size w.heap.size (fun _ => True) (fun _ _ _ _ _ h => h) (fun _ _ _ h => h) ?_ ?_
  · have key : ∀ (l : List Oper) (i : Nat), (∀ o ∈ l, o ∈ ops.toList) → AllIdx (TabOk P ops Q a0 w T) i l → AllIdx (MonoOk P ops Q a0 w (fun k v _ => v = T k) ops.size w.heap.size (fun _ => True)) i l := by
      intro l
      induction l with
      | nil => intro i _ _; trivial
      | cons o l ih =>
        intro i hmem h
        refine ⟨?_, ih (i + 1) (fun o ho => hmem o (by simp [ho])) h.2⟩
        intro val a w' hgr _ hdep hold K hK
        have hb := grown_below hgr
        have hdep2 : ∀ j d oj, ops[j]? = some oj → oj.dst = some d → (o.after.toList.any fun e => e.on == j && Region.binds .any e) = true → a.eval (.tmp d) = T j := by
          intro j d oj h1 h2 h3
          obtain ⟨e1, e2⟩ := hdep j d oj h1 h2 h3
          exact e1.trans e2
        have hK2 : ∀ w'', Below w'.heap.size w' w'' → K (a.put o.dst (T i)) w'' := fun w'' hb2 => hK (T i) w'' (fun _ => hb2) (fun _ => ⟨below_grown hb2 _, trivial⟩) rfl
        rw [wanted_tab ((List.all_eq_true.1 hgd) o (hmem o (by simp))) hdep2]
        have h1 := h.1
        unfold TabOk at h1
        split
        · next hw =>
          rw [if_pos hw] at h1
          exact h1 a w' hb hdep2 hold K hK2
        · next hw =>
          rw [if_neg hw] at h1
          rw [← h1]
          exact hK2 w' (Below.refl _ _)
    exact key ops.toList 0 (fun _ h => h) hs
  · intro val w' hgr hall _
    rw [putL_congr val T ops.toList 0 a0 (fun k _ hk => hall k (by simpa using hk))]
    exact hd w' (grown_below hgr)
end
end Reg
end Go.Proofs.Ytdekbncpodjgnaa
namespace Go.Proofs.Ytdekbncpodjgnaa
open Go Go.RowKit
set_option linter.unusedVariables false
set_option linter.unusedSimpArgs false
namespace Reg

section
variable {P : Program} {ops : Array Oper} {Q : Exit → Act → World → Prop} {a0 : Act} {w0 : World} {T : Nat → Value} {i : Nat} {o : Oper}
/-- The value of an operand, by the table. -/
def valOf (ops : Array Oper) (T : Nat → Value) (a0 : Act) : Operand → Value
  | .tmp t => match ops.toList.findIdx? (fun o => o.dst == some t) with
    | some j => T j
    | none => a0.eval (.tmp t)
  | x => a0.eval x
/-- The operation stands behind the one that yields its operand. -/
def srcOk (ops : Array Oper) (o : Oper) : Operand → Bool
  | .tmp t => match ops.toList.findIdx? (fun o => o.dst == some t) with
    | some j => o.after.toList.any fun e => e.on == j && Region.binds .any e
    | none => true
  | _ => true
theorem eval_tab {a : Act} {x : Operand} (hx : srcOk ops o x = true)
    (hdep : ∀ j d oj, ops[j]? = some oj → oj.dst = some d → (o.after.toList.any fun e => e.on == j && Region.binds .any e) = true → a.eval (.tmp d) = T j)
    (hold : ∀ t, (ops.toList.all fun o : Oper => o.dst != some t) = true → a.eval (.tmp t) = a0.eval (.tmp t)) : a.eval x = valOf ops T a0 x := by
  cases x with
  | tmp t =>
    unfold srcOk at hx
    unfold valOf
    simp only at hx ⊢
    cases hf : ops.toList.findIdx? (fun o => o.dst == some t) with
    | some j =>
      rw [hf] at hx
      simp only at hx ⊢
      obtain ⟨hj, h1, _⟩ := List.findIdx?_eq_some_iff_getElem.1 hf
      exact hdep j t _ (Array.getElem?_eq_getElem (by simpa using hj)) (by simpa using h1) hx
    | none =>
      simp only
      refine hold t (List.all_eq_true.2 fun o' ho' => ?_)
      have := List.findIdx?_eq_none_iff.1 hf o' ho'
      simpa [bne] using this
  | const v => rfl
  | global g => rfl
  | func f => rfl
theorem TabOk.yes {P : Program} {ops : Array Oper} {Q : Exit → Act → World → Prop} {a0 : Act} {w0 : World} {T : Nat → Value} {i : Nat} {o : Oper} (hw : wantT T o = true)
    (h : ∀ (a : Act) (w : World), Below w0.heap.size w0 w → (∀ x, srcOk ops o x = true → a.eval x = valOf ops T a0 x) →
    ∀ K : Act → World → Prop, (∀ w', Below w.heap.size w w' → K (a.put o.dst (T i)) w') → o.wp P a w K Q) : TabOk P ops Q a0 w0 T i o := by
  unfold TabOk
  rw [if_pos hw]
  intro a w hb hdep hold K hK
  exact h a w hb (fun x hx => eval_tab hx hdep hold) K hK
theorem tab_move {x : Operand} (hop : o.op = .move x) (hs : srcOk ops o x = true) (hw : wantT T o = true) (hv : valOf ops T a0 x = T i) : TabOk P ops Q a0 w0 T i o := by
  refine TabOk.yes hw ?_
  intro a w hb he K hK
  have e1 := (he x hs).trans hv
  have h2 := hK w (Below.refl _ _)
  clear hs hw hv hb he hK
  unfold Oper.wp execOp
  rw [hop]
  simp only [e1]
  exact h2
theorem tab_assign {x : Operand} (hop : o.op = .assign x) (hs : srcOk ops o x = true) (hw : wantT T o = true) (hv : valOf ops T a0 x = T i) : TabOk P ops Q a0 w0 T i o := by
  refine TabOk.yes hw ?_
  intro a w hb he K hK
  have e1 := (he x hs).trans hv
  have h2 := hK w (Below.refl _ _)
  clear hs hw hv hb he hK
  unfold Oper.wp execOp
  rw [hop]
  simp only [e1]
  exact h2
theorem tab_pick {c x y : Operand} (hop : o.op = .pick c x y) (hs : (srcOk ops o c && srcOk ops o x && srcOk ops o y) = true) (hw : wantT T o = true) (b : Bool) (hc : valOf ops T a0 c = .bool b) (hv : (bif b then valOf ops T a0 x else valOf ops T a0 y) = T i) : TabOk P ops Q a0 w0 T i o := by
  refine TabOk.yes hw ?_
  intro a w hb he K hK
  simp only [Bool.and_eq_true] at hs
  have e1 := he c hs.1.1
  have e2 := he x hs.1.2
  have e3 := he y hs.2
  have h2 := hK w (Below.refl _ _)
  rw [hc] at e1
  rw [← e2, ← e3] at hv
  clear hs hw hb he hK hc e2 e3
  unfold Oper.wp execOp
  rw [hop]
  simp only [e1]
  cases b
  · simp only [cond_false] at hv
    rw [← hv] at h2
    simpa [go_sem, Oper.upon] using h2
  · simp only [cond_true] at hv
    rw [← hv] at h2
    simpa [go_sem, Oper.upon] using h2
theorem tab_eql {t t' : TypeId} {x y : Operand} (hop : o.op = .binOp .eql t x y t') (hs : (srcOk ops o x && srcOk ops o y) = true) (hw : wantT T o = true) {k : IntKind} {m n : Int} (hx : valOf ops T a0 x = .int k m) (hy : valOf ops T a0 y = .int k n) (hv : Value.bool (m == n) = T i) : TabOk P ops Q a0 w0 T i o := by
  refine TabOk.yes hw ?_
  intro a w hb he K hK
  simp only [Bool.and_eq_true] at hs
  have e1 := (he x hs.1).trans hx
  have e2 := (he y hs.2).trans hy
  have h2 := hK w (Below.refl _ _)
  rw [← hv] at h2
  clear hs hw hb he hK hv hx hy
  unfold Oper.wp execOp
  rw [hop]
  simp only [e1, e2]
  simpa [go_sem, Oper.upon, binOp, Op.intCmp, eqGuard] using h2
theorem run_val (s : Sem Value) (w : World) : Sem.run P (do pure (Next.value (← s))) w = match s.run P w with | .ok v w' => .ok (.value v) w' | .halt h w' => .halt h w' := by
  cases h : s.run P w <;> simp [go_sem, h, Result.andThen]
theorem tab_value {v : Value} (hw : wantT T o = true)
    (h : ∀ (a : Act) (w : World), Below w0.heap.size w0 w → (∀ x, srcOk ops o x = true → a.eval x = valOf ops T a0 x) → (execOp a.eval o).run P w = .ok (.value (T i)) w) : TabOk P ops Q a0 w0 T i o := by
  refine TabOk.yes hw ?_
  intro a w hb he K hK
  unfold Oper.wp
  rw [h a w hb he]
  exact hK w (Below.refl _ _)
theorem tab_load {t : TypeId} {x : Operand} {p : Addr} (hop : o.op = .load t x) (hs : srcOk ops o x = true) (hw : wantT T o = true) (hx : valOf ops T a0 x = .pointer (some p))
    (h : ∀ w, Below w0.heap.size w0 w → (Instr.loadAt t (.pointer (some p))).run P w = .ok (T i) w) : TabOk P ops Q a0 w0 T i o := by
  refine tab_value (v := undef) hw ?_
  intro a w hb he
  have e1 := (he x hs).trans hx
  have h2 := h w hb
  unfold execOp
  rw [hop]
  simp only [e1]
  rw [run_val, h2]
theorem tab_field {s : TypeId} {x : Operand} {f : Nat} {v : Value} (hop : o.op = .fieldAddr s x f) (hs : srcOk ops o x = true) (hw : wantT T o = true) (hx : valOf ops T a0 x = v)
    (h : ∀ w, (Instr.fieldAt s v f).run P w = .ok (T i) w) : TabOk P ops Q a0 w0 T i o := by
  refine tab_value (v := undef) hw ?_
  intro a w hb he
  have e1 := (he x hs).trans hx
  have h2 := h w
  unfold execOp
  rw [hop]
  simp only [e1]
  rw [run_val, h2]
theorem tab_bin {op : BinOp} {t t' : TypeId} {x y : Operand} (hop : o.op = .binOp op t x y t') (hs : (srcOk ops o x && srcOk ops o y) = true) (hw : wantT T o = true) {k k' : IntKind} {m n : Int} (hx : valOf ops T a0 x = .int k m) (hy : valOf ops T a0 y = .int k' n) (h : ∀ w, (binOp op t (.int k m) (.int k' n)).run P w = .ok (T i) w) : TabOk P ops Q a0 w0 T i o := by
  refine tab_value (v := undef) hw ?_
  intro a w hb he
  simp only [Bool.and_eq_true] at hs
  have e1 := (he x hs.1).trans hx
  have e2 := (he y hs.2).trans hy
  unfold execOp
  rw [hop]
  simp only [e1, e2]
  rw [run_val]
  have e3 : eqGuard op t x y (.int k m) (.int k' n) = pure () := by unfold eqGuard; simp
  rw [e3]
  simp only [pure_bind]
  rw [h w]
theorem tab_index {t : TypeId} {x y : Operand} {v u : Value} (hop : o.op = .indexAddr t x y) (hs : (srcOk ops o x && srcOk ops o y) = true) (hw : wantT T o = true) (hx : valOf ops T a0 x = v) (hy : valOf ops T a0 y = u)
    (h : ∀ w, (Instr.indexAt t v u).run P w = .ok (T i) w) : TabOk P ops Q a0 w0 T i o := by
  refine tab_value (v := undef) hw ?_
  intro a w hb he
  simp only [Bool.and_eq_true] at hs
  have e1 := (he x hs.1).trans hx
  have e2 := (he y hs.2).trans hy
  unfold execOp
  rw [hop]
  simp only [e1, e2]
  rw [run_val, h w]
theorem tab_not (hw : wantT T o = false) (hT : T i = undef) : TabOk P ops Q a0 w0 T i o := by
  unfold TabOk
  rw [if_neg (by rw [hw]; simp)]
  exact hT
theorem tab_call {f : FuncId} {args : Array Operand} {ts : Array TypeId} {vs : Array Value} (hop : o.op = .call { callee := .value (.func f), args := args, argTypes := ts }) (hs : (args.toList.all (srcOk ops o)) = true) (hw : wantT T o = true) (hx : args.toList.map (valOf ops T a0) = vs.toList)
    (hc : ∀ xs w, (callFunc f xs).run P w = .ok (.enter f xs) w) (h : ∀ w, Below w0.heap.size w0 w → Calls P f vs w fun e w' => e = .returned (T i) ∧ Below w.heap.size w w') : TabOk P ops Q a0 w0 T i o := by
  refine TabOk.yes hw ?_
  intro a w hb he K hK
  have e1 : args.map a.eval = vs := by
    apply Array.toList_inj.1
    rw [Array.toList_map, ← hx]
    exact List.map_congr_left fun x hx => he x (List.all_eq_true.1 hs x hx)
  have h2 := h w hb
  have e2 : execOp a.eval o = callFunc f (#[] ++ args.map a.eval ++ #[]) := by
    unfold execOp
    rw [hop]
    rfl
  have e3 : (#[] ++ vs ++ #[] : Array Value) = vs := by simp
  unfold Oper.wp
  rw [e2, e1, e3, hc]
  refine h2.mono ?_
  rintro _ w' ⟨rfl, hb'⟩
  exact hK w' hb'
end
end Reg
end Go.Proofs.Ytdekbncpodjgnaa
