/-
  A region that draws its order, shown by an invariant: one obligation for each operation, whatever the order.
-/
import Derived.Test.YtjhigfhgchpjcaaWords
import Derived.Orders
namespace Go.Proofs.Ytjhigfhgchpjcaa
open Go
set_option linter.unusedVariables false
namespace Reg

section
variable {P : Program} {ops : Array Oper} {Q : Exit → Act → World → Prop}

def left (L : Array Bool) : Nat := L.toList.count false
theorem lt_of_un {L : Array Bool} {i : Nat} (h : L.getD i true = false) : i < L.size := by
  rcases Nat.lt_or_ge i L.size with h1 | h1
  · exact h1
  · rw [Array.getD_eq_getD_getElem?, Array.getElem?_eq_none h1] at h
    cases h
theorem left_set {L : Array Bool} {i : Nat} (h : L.getD i true = false) : left (L.setIfInBounds i true) + 1 = left L := by
  have hi := lt_of_un h
  have hv : L.toList[i]'(by simpa using hi) = false := by
    rw [Array.getD_eq_getD_getElem?, Array.getElem?_eq_getElem hi] at h
    simpa using h
  unfold left
  rw [Array.toList_setIfInBounds, List.count_set (by simpa using hi), hv]
  have hm : false ∈ L.toList := by rw [← hv]; exact List.getElem_mem _
  have := List.count_pos_iff.2 hm
  have e1 : (if (false == false) = true then 1 else 0) = 1 := rfl
  have e2 : (if (true == false) = true then 1 else 0) = 0 := rfl
  rw [e1, e2]
  omega
theorem wpAny_inv (I : Array Bool → Act → World → Prop)
    (hs : ∀ i o, ops[i]? = some o → ∀ L a w, I L a w → L.getD i true = false → (∀ e ∈ o.after, Region.binds .any e = true → L.getD e.on false = true) → wpOp P ops Q i (fun a' w' => I (L.setIfInBounds i true) a' w') a w)
    (hd : ∀ L a w, I L a w → Region.ready .any ops L = [] → Q .normal a w) :
    ∀ (fuel : Nat) (L : Array Bool) (a : Act) (w : World), I L a w → left L ≤ fuel → wpAny P .any ops Q fuel L a w := by
  intro fuel
  induction fuel with
  | zero =>
    intro L a w hI hl
    have hr : Region.ready .any ops L = [] := by
      rw [List.eq_nil_iff_forall_not_mem]
      intro j hj
      have := left_set (mem_ready.1 hj).1
      omega
    exact ⟨hr, hd L a w hI hr⟩
  | succ fuel ih =>
    intro L a w hI hl
    refine ⟨fun hr => hd L a w hI hr, fun i hi => ?_⟩
    obtain ⟨h1, o, ho, hdep⟩ := mem_ready.1 hi
    exact wpOp_mono (fun a' w' h3 => ih _ a' w' h3 (by have := left_set h1; omega)) (hs i o ho L a w hI h1 hdep)

/-- Every edge points back. -/
def backB (ops : Array Oper) : Bool := (List.range ops.size).all fun i => ((ops[i]?).map fun o => o.after.all fun e => !Region.binds .any e || decide (e.on < i)).getD true
theorem all_listed (hb : backB ops = true) {L : Array Bool} (hsz : L.size = ops.size) (hr : Region.ready .any ops L = []) : ∀ i, i < ops.size → L.getD i false = true := by
  intro i
  induction i using Nat.strongRecOn with
  | ind i ih =>
    intro hi
    cases hv : L.getD i false with
    | true => rfl
    | false =>
      exfalso
      have hlt : i < L.size := by omega
      have hu : L.getD i true = false := by
        rw [Array.getD_eq_getD_getElem?, Array.getElem?_eq_getElem hlt] at hv ⊢
        exact hv
      have ho : ops[i]? = some ops[i] := Array.getElem?_eq_getElem hi
      have hmem : i ∈ Region.ready .any ops L := by
        refine mem_ready.2 ⟨hu, ops[i], ho, fun e he hbi => ?_⟩
        have h1 := List.all_eq_true.1 hb i (by simpa using hi)
        rw [ho] at h1
        simp only [Option.map_some, Option.getD_some] at h1
        have h2 := Array.all_eq_true_iff_forall_mem.1 h1 e he
        rw [hbi] at h2
        have h3 : e.on < i := by simpa using h2
        exact ih e.on h3 (by omega)
      rw [hr] at hmem
      cases hmem

/-- What the operations that have come up left in their temporaries. -/
structure Ev (ops : Array Oper) (a0 : Act) (L : Array Bool) (val : Nat → Value) (a : Act) : Prop where
  size : a.tmps.size = a0.tmps.size
  defers : a.defers = a0.defers
  at_ : ∀ j o d, ops[j]? = some o → o.dst = some d → L.getD j false = true → a.tmps[d]? = some (val j)
  out : ∀ t, (∀ j o, ops[j]? = some o → L.getD j false = true → o.dst ≠ some t) → a.tmps[t]? = a0.tmps[t]?
def upd (val : Nat → Value) (i : Nat) (v : Value) : Nat → Value := fun j => if j = i then v else val j
theorem upd_same (val : Nat → Value) (i : Nat) (v : Value) : upd val i v i = v := by simp [upd]
theorem upd_ne {val : Nat → Value} {i j : Nat} (v : Value) (h : j ≠ i) : upd val i v j = val j := by simp [upd, h]
def dstB (ops : Array Oper) (n : Nat) : Bool :=
  (List.range ops.size).all fun i => match (ops[i]?).bind (·.dst) with
    | none => true
    | some d => decide (d < n) && (List.range ops.size).all fun j => decide (i = j) || (ops[j]?).bind (·.dst) != some d
theorem dst_lt {n : Nat} (h : dstB ops n = true) {i d : Nat} {o : Oper} (ho : ops[i]? = some o) (hd : o.dst = some d) : d < n := by
  have hi : i < ops.size := by
    rcases Nat.lt_or_ge i ops.size with h1 | h1
    · exact h1
    · rw [Array.getElem?_eq_none h1] at ho; cases ho
  have h1 := List.all_eq_true.1 h i (by simpa using hi)
  rw [ho, Option.bind_some, hd] at h1
  simp only [Bool.and_eq_true, decide_eq_true_eq] at h1
  exact h1.1
theorem dst_ne {n : Nat} (h : dstB ops n = true) {i j d : Nat} {o o' : Oper} (ho : ops[i]? = some o) (ho' : ops[j]? = some o') (hd : o.dst = some d) (hij : i ≠ j) : o'.dst ≠ some d := by
  have hi : i < ops.size := by
    rcases Nat.lt_or_ge i ops.size with h1 | h1
    · exact h1
    · rw [Array.getElem?_eq_none h1] at ho; cases ho
  have hj : j < ops.size := by
    rcases Nat.lt_or_ge j ops.size with h1 | h1
    · exact h1
    · rw [Array.getElem?_eq_none h1] at ho'; cases ho'
  have h1 := List.all_eq_true.1 h i (by simpa using hi)
  rw [ho, Option.bind_some, hd] at h1
  simp only [Bool.and_eq_true] at h1
  have h2 := List.all_eq_true.1 h1.2 j (by simpa using hj)
  rw [ho', Option.bind_some] at h2
  simp [hij] at h2
  exact h2
theorem on_set {L : Array Bool} {i k : Nat} (h : (L.setIfInBounds i true).getD k false = true) : k = i ∨ L.getD k false = true := by
  by_cases e : k = i
  · exact .inl e
  · rw [getD_set_ne false (fun h => e h.symm)] at h
    exact .inr h
theorem Ev.put {a0 a : Act} {L : Array Bool} {val : Nat → Value} (hE : Ev ops a0 L val a) (hsz : L.size = ops.size) (hdst : dstB ops a0.tmps.size = true) {i : Nat} {o : Oper} (ho : ops[i]? = some o) (v : Value) : Ev ops a0 (L.setIfInBounds i true) (upd val i v) (a.put o.dst v) := by
  cases hd : o.dst with
  | none =>
    refine ⟨hE.size, hE.defers, fun j oj d hj hdj hon => ?_, fun t ht => ?_⟩
    · have hne : j ≠ i := by
        rintro rfl
        rw [ho] at hj
        cases hj
        rw [hd] at hdj
        cases hdj
      rw [upd_ne _ hne]
      exact hE.at_ j oj d hj hdj ((on_set hon).resolve_left hne)
    · exact hE.out t (fun j oj hj hon => ht j oj hj (getD_set_true hon))
  | some d =>
    have hlt := dst_lt hdst ho hd
    refine ⟨by simpa [Act.put] using hE.size, hE.defers, fun j oj d' hj hdj hon => ?_, fun t ht => ?_⟩
    · by_cases hji : j = i
      · subst hji
        rw [ho] at hj
        cases hj
        rw [hd] at hdj
        cases hdj
        rw [upd_same]
        simp only [Act.put]
        rw [Array.getElem?_setIfInBounds_self_of_lt]
        rw [hE.size]
        exact hlt
      · have hne := dst_ne hdst ho hj hd (fun e => hji e.symm)
        have hdd : d ≠ d' := fun e => hne (by rw [hdj, e])
        rw [upd_ne _ hji]
        simp only [Act.put]
        rw [Array.getElem?_setIfInBounds_ne hdd]
        exact hE.at_ j oj d' hj hdj ((on_set hon).resolve_left hji)
    · by_cases htd : t = d
      · subst htd
        have h1 : i < L.size := by
          rw [hsz]
          rcases Nat.lt_or_ge i ops.size with h1 | h1
          · exact h1
          · rw [Array.getElem?_eq_none h1] at ho; cases ho
        exact absurd hd (ht i o ho (by rw [Array.getD_eq_getD_getElem?, Array.getElem?_setIfInBounds_self_of_lt h1]; rfl))
      · simp only [Act.put]
        rw [Array.getElem?_setIfInBounds_ne (fun e => htd e.symm)]
        exact hE.out t (fun j oj hj hon => ht j oj hj (getD_set_true hon))
/-- All values put into their temporaries. -/
def putL (val : Nat → Value) : Nat → List Oper → Act → Act
  | _, [], a => a
  | i, o :: l, a => putL val (i + 1) l (a.put o.dst (val i))
theorem put_size (a : Act) (d : Option Tmp) (v : Value) : (a.put d v).tmps.size = a.tmps.size := by cases d <;> simp [Act.put]
theorem put_defers (a : Act) (d : Option Tmp) (v : Value) : (a.put d v).defers = a.defers := by cases d <;> simp [Act.put]
theorem putL_size (val : Nat → Value) (l : List Oper) : ∀ (i : Nat) (a : Act), (putL val i l a).tmps.size = a.tmps.size := by
  induction l with
  | nil => intro i a; rfl
  | cons o l ih => intro i a; rw [putL, ih, put_size]
theorem putL_defers (val : Nat → Value) (l : List Oper) : ∀ (i : Nat) (a : Act), (putL val i l a).defers = a.defers := by
  induction l with
  | nil => intro i a; rfl
  | cons o l ih => intro i a; rw [putL, ih, put_defers]
theorem putL_out (val : Nat → Value) (l : List Oper) : ∀ (i : Nat) (a : Act) (t : Nat), (∀ o ∈ l, o.dst ≠ some t) → (putL val i l a).tmps[t]? = a.tmps[t]? := by
  induction l with
  | nil => intro i a t _; rfl
  | cons o l ih =>
    intro i a t h
    rw [putL, ih _ _ _ (fun o' ho' => h o' (by simp [ho']))]
    have h1 := h o (by simp)
    cases hd : o.dst with
    | none => rfl
    | some d =>
      simp only [Act.put]
      rw [Array.getElem?_setIfInBounds_ne]
      intro e
      exact h1 (by rw [hd, e])
theorem putL_at (val : Nat → Value) (l : List Oper) : ∀ (i : Nat) (a : Act) (k t : Nat) (o : Oper), l[k]? = some o → o.dst = some t → t < a.tmps.size → (∀ j o', l[j]? = some o' → j ≠ k → o'.dst ≠ some t) → (putL val i l a).tmps[t]? = some (val (i + k)) := by
  induction l with
  | nil => intro i a k t o h; simp at h
  | cons o l ih =>
    intro i a k t o' hk hd hlt hne
    rw [putL]
    cases k with
    | zero =>
      simp only [List.getElem?_cons_zero, Option.some.injEq] at hk
      subst hk
      rw [putL_out]
      · rw [hd]
        simp only [Act.put]
        rw [Array.getElem?_setIfInBounds_self_of_lt hlt]
        rfl
      · intro o'' ho''
        obtain ⟨j, hj, e⟩ := List.getElem_of_mem ho''
        exact hne (j + 1) o'' (by simp [List.getElem?_eq_getElem hj, e]) (by omega)
    | succ k =>
      simp only [List.getElem?_cons_succ] at hk
      rw [ih (i + 1) _ k t o' hk hd (by rw [put_size]; exact hlt) (fun j o'' hj hjk => hne (j + 1) o'' (by simpa using hj) (by omega)), show i + 1 + k = i + (k + 1) by omega]
theorem Ev.all {a0 a : Act} {L : Array Bool} {val : Nat → Value} (hE : Ev ops a0 L val a) (hdst : dstB ops a0.tmps.size = true) (hall : ∀ i, i < ops.size → L.getD i false = true) : a = putL val 0 ops.toList a0 := by
  have key : a.tmps = (putL val 0 ops.toList a0).tmps := by
    apply Array.ext_getElem?
    intro t
    by_cases h : ∃ (k : Nat) (o : Oper), ops[k]? = some o ∧ o.dst = some t
    · obtain ⟨k, o, ho, hd⟩ := h
      have hk : k < ops.size := by
        rcases Nat.lt_or_ge k ops.size with h1 | h1
        · exact h1
        · rw [Array.getElem?_eq_none h1] at ho; cases ho
      rw [hE.at_ k o t ho hd (hall k hk), putL_at val ops.toList 0 a0 k t o (by simpa using ho) hd (dst_lt hdst ho hd) (fun j o' hj hjk => dst_ne hdst ho (by simpa using hj) hd (fun e => hjk e.symm)), Nat.zero_add]
    · rw [hE.out t (fun j (o : Oper) hj _ hd => h ⟨j, o, hj, hd⟩), putL_out]
      intro o ho hd
      obtain ⟨j, hj, e⟩ := List.getElem_of_mem ho
      exact h ⟨j, o, by simp at hj; rw [Array.getElem?_eq_getElem hj]; simpa using e, hd⟩
  have kd : a.defers = (putL val 0 ops.toList a0).defers := by rw [putL_defers]; exact hE.defers
  cases a
  cases hp : putL val 0 ops.toList a0
  rw [hp] at key kd
  simp only at key kd
  rw [key, kd]

/-- What is to be shown of one operation. -/
def StepOk (P : Program) (ops : Array Oper) (Q : Exit → Act → World → Prop) (a0 : Act) (J : Array Bool → (Nat → Value) → World → Prop) (i : Nat) (o : Oper) : Prop :=
  ∀ (L : Array Bool) (val : Nat → Value) (a : Act) (w : World), L.size = ops.size → J L val w → L.getD i true = false → (∀ e ∈ o.after, Region.binds .any e = true → L.getD e.on false = true) → Ev ops a0 L val a →
    ∀ K : Act → World → Prop, (∀ v w', J (L.setIfInBounds i true) (upd val i v) w' → K (a.put o.dst v) w') → if Region.wanted o (yielded ops a.tmps) = true then o.wp P a w K Q else K (a.put o.dst undef) w
def AllIdx (f : Nat → Oper → Prop) : Nat → List Oper → Prop
  | _, [] => True
  | i, o :: l => f i o ∧ AllIdx f (i + 1) l
theorem AllIdx.at_ {f : Nat → Oper → Prop} (l : List Oper) : ∀ (i : Nat), AllIdx f i l → ∀ k o, l[k]? = some o → f (i + k) o := by
  induction l with
  | nil => intro i _ k o h; simp at h
  | cons x l ih =>
    intro i h k o hk
    cases k with
    | zero =>
      simp only [List.getElem?_cons_zero, Option.some.injEq] at hk
      subst hk
      exact h.1
    | succ k =>
      simp only [List.getElem?_cons_succ] at hk
      have := ih (i + 1) h.2 k o hk
      rwa [show i + 1 + k = i + (k + 1) by omega] at this
theorem wp_region_val {id : Nat} {a0 : Act} {w : World} (hm : P.follows .mixedOrders = true) (hback : backB ops = true) (hdst : dstB ops a0.tmps.size = true)
    (J : Array Bool → (Nat → Value) → World → Prop) (h0 : J (Array.replicate ops.size false) (fun _ => undef) w.drew) (hs : AllIdx (StepOk P ops Q a0 J) 0 ops.toList)
    (hd : ∀ L val w', (∀ i, i < ops.size → L.getD i false = true) → J L val w' → Q .normal (putL val 0 ops.toList a0) w') : (Code.region id ops true).wp P Q a0 w := by
  refine wp_region_any hm ?_
  refine wpAny_inv (fun L a w => L.size = ops.size ∧ ∃ val, J L val w ∧ Ev ops a0 L val a) ?_ ?_ _ _ _ _ ?_ ?_
  · rintro i o ho L a w ⟨hsz, val, hJ, hE⟩ hu hdep
    have hS : StepOk P ops Q a0 J i o := by
      have := hs.at_ _ _ i o (by simpa using ho)
      rwa [Nat.zero_add] at this
    have h1 := hS L val a w hsz hJ hu hdep hE (fun a' w' => (L.setIfInBounds i true).size = ops.size ∧ ∃ val, J (L.setIfInBounds i true) val w' ∧ Ev ops a0 (L.setIfInBounds i true) val a') (fun v w' hJ' => ⟨by simpa using hsz, upd val i v, hJ', hE.put hsz hdst ho v⟩)
    unfold wpOp
    simp only [ho]
    by_cases hw : Region.wanted o (yielded ops a.tmps) = true
    · rw [if_pos hw] at h1 ⊢
      exact .inl h1
    · rw [if_neg hw] at h1 ⊢
      exact h1
  · rintro L a w ⟨hsz, val, hJ, hE⟩ hr
    have hall := all_listed hback hsz hr
    rw [hE.all hdst hall]
    exact hd L val w hall hJ
  · refine ⟨by simp, fun _ => undef, h0, ⟨rfl, rfl, fun j o d _ _ hon => ?_, fun t _ => rfl⟩⟩
    exfalso
    rw [Array.getD_eq_getD_getElem?, Array.getElem?_replicate] at hon
    split at hon <;> simp at hon
  · unfold left
    simp
/-- The value of an operand that an operation waits for. -/
theorem Ev.arg {a0 a : Act} {L : Array Bool} {val : Nat → Value} (hE : Ev ops a0 L val a) {o : Oper} (hdep : ∀ e ∈ o.after, Region.binds .any e = true → L.getD e.on false = true) (j d : Nat) {oj : Oper} (hj : ops[j]? = some oj) (hd : oj.dst = some d) (hw : (o.after.toList.any fun e => e.on == j && Region.binds .any e) = true) : a.eval (.tmp d) = val j ∧ L.getD j false = true := by
  obtain ⟨e, hm, he⟩ := List.any_eq_true.1 hw
  simp only [Bool.and_eq_true, beq_iff_eq] at he
  have hon := hdep e (by simpa using hm) he.2
  rw [he.1] at hon
  refine ⟨?_, hon⟩
  have := hE.at_ j oj d hj hd hon
  simp [Act.eval, Array.getD_eq_getD_getElem?, this]
theorem Ev.old {a0 a : Act} {L : Array Bool} {val : Nat → Value} (hE : Ev ops a0 L val a) (t : Nat) (h : (ops.toList.all fun o : Oper => o.dst != some t) = true) : a.eval (.tmp t) = a0.eval (.tmp t) := by
  have := hE.out t (fun j o hj _ hd => by
    have hm : o ∈ ops.toList := by
      obtain ⟨hlt, e⟩ := Array.getElem?_eq_some_iff.1 hj
      rw [← e]
      simp
    have := List.all_eq_true.1 h o hm
    rw [hd] at this
    simp at this)
  simp [Act.eval, Array.getD_eq_getD_getElem?, this]
end
end Reg
end Go.Proofs.Ytjhigfhgchpjcaa
