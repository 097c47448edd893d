/-
  Plain: what AccumNames computes at its accumulators.
-/
import Derived.Test.YtjhigfhgchpjcaaAccR
import Derived.Test.YtjhigfhgchpjcaaRegG
namespace Go.Proofs.Ytjhigfhgchpjcaa
open Go.RowKit Runs Lagc Frac Reg
set_option linter.unusedVariables false
set_option linter.unusedSimpArgs false

/-- A call in a region that draws. -/
theorem grow_call {P : Program} {ops : Array Oper} {o : Oper} {a : Act} {w : World} {K : Act → World → Prop} {Q : Exit → Act → World → Prop} {E : Prop} {f : FuncId} {args : Array Operand} {ts : Array TypeId} {vs : Array Value} (hgd : o.guard = none) (hop : o.op = .call { callee := .value (.func f), args := args, argTypes := ts }) (hx : args.map a.eval = vs)
    (hc : ∀ xs w, (callFunc f xs).run P w = .ok (.enter f xs) w) (h : Calls P f vs w fun e w' => ∃ v, e = .returned v ∧ K (a.put o.dst v) w') : if Region.wanted o (yielded ops a.tmps) = true then o.wp P a w K Q else E := by
  rw [if_pos (by simp [Region.wanted, hgd])]
  have e2 : execOp a.eval o = callFunc f (#[] ++ args.map a.eval ++ #[]) := by
    unfold execOp
    rw [hop]
    rfl
  have e3 : (#[] ++ vs ++ #[] : Array Value) = vs := by simp
  unfold Oper.wp
  rw [e2, hx, e3, hc]
  refine h.mono ?_
  rintro _ w' ⟨v, rfl, hk⟩
  exact hk
/-- One run that is laid among others, by computing. -/
def runT (s : St) : List G → Option St
  | [] => some s
  | x :: l => if meetB x s.g then none else runT (Runs.stepT s x) l
theorem inv_run {g0 : G} (h0 : okG g0) : ∀ (l d : List G) (s s' : St), Inv d g0 s → Rn (d ++ l) → runT s l = some s' → Inv (d ++ l) g0 s' := by
  intro l
  induction l with
  | nil =>
    intro d s s' h _ e
    rw [runT] at e
    cases e
    simpa using h
  | cons x l ih =>
    intro d s s' h hr e
    rw [runT] at e
    by_cases hm : meetB x s.g = true
    · rw [if_pos hm] at e; cases e
    · rw [if_neg hm] at e
      have hm' : meetB x s.g = false := by simpa using hm
      have hr' : Rn ((d ++ [x]) ++ l) := by simpa using hr
      have h2 := inv_step h (Rn_split.1 hr').1 hm' h0
      have := ih (d ++ [x]) (Runs.stepT s x) s' h2 hr' e
      simpa using this
theorem uni_run {l : List G} {g0 : G} {s : St} (hl : runB l = true) (h0 : okG g0) (e : runT ⟨[], g0, []⟩ l = some s) : uni l [g0] = (s.list, true) := by
  have h := inv_run h0 l [] ⟨[], g0, []⟩ s (inv_start h0) (by simpa using runB_iff.1 hl) e
  exact uni_yes (good_tog (by simpa using h))

def aFull : Acc := ⟨[(999999999, 999999999)], [(0, 0)], []⟩
def aLow : Acc := ⟨[(999999999, 999999998)], [(0, 1)], [(0, 1)]⟩
def gapF (r : Nat) : G := (3 * (r : Int), 1)
def gaps64 : List G := fullL gapF 64
def aMost : Acc := ⟨[(0, 0)], [(0, 0)], gaps64⟩
def near63 : List G := (0, 4) :: (fullL (fun r => gapF (r + 2)) 62)
def aNear : Acc := ⟨[(0, 1)], [(0, 1)], near63⟩
def aOther : Acc := ⟨[(0, 0), (0, 0), (0, 0)], [(0, 0), (0, 0), (0, 0)], []⟩
theorem n256 : newS 256 = (.none, 2) := rfl
theorem nNeg : newS (-1) = (.none, 2) := rfl
theorem n1 : newS 1 = (aOther, 0) := by rfl
theorem fFull : accErr aFull = 0 := by decide +kernel
theorem fMost : accErr aMost = 0 := by decide +kernel
theorem f512 : accErr ⟨List.replicate 512 (0, 0), [], []⟩ = 4 := by decide +kernel
theorem f65 : accErr ⟨[], [], List.replicate 65 (0, 0)⟩ = 4 := by decide +kernel
theorem ad1 : addAcc aFull [(1, 1)] 0 1 = (.none, 16) := by
  rw [addAcc_e0 fFull (by decide) (by decide)]
  exact mrg_e16 (by rw [show (aFull).g = [] from rfl, show (lagAcc [(1, 1)] 0 1).g = [(0, 1)] from rfl, uni_nil (Rn_one (by unfold okG; decide))]) (.inl (by decide))
theorem ad2 : addAcc aFull [(-1, 1)] 0 1 = (aLow, 0) := by
  rw [addAcc_e0 fFull (by decide) (by decide)]
  exact mrg_is (uni_nil (Rn_one (by unfold okG; decide))) (by decide) (by decide) (by decide) (by decide) (by decide)
theorem ad3 : addAcc aFull [(1, 1)] 0 0 = (.none, 2) := addAcc_e3 fFull (by decide) (by decide)
theorem ad4 : addAcc aFull [(1, 1)] 0 257 = (.none, 2) := addAcc_e3 fFull (by decide) (by decide)
theorem ad5 : addAcc aFull [(1, 1)] 1000000000 1 = (.none, 2) := addAcc_e3 fFull (by decide) (by decide)
theorem ad6 : addAcc aFull (List.replicate 3 (0, 0)) 0 1 = (.none, 2) := addAcc_e3 fFull (by decide) (by decide)
theorem ad7 : addAcc aFull [(0, 1)] 0 1 = (.none, 8) := addAcc_e2 fFull (by decide)
theorem mg1 : mergeS aFull aOther = (.none, 2) := by
  unfold mergeS
  rw [if_neg (by rw [fFull]; simp), if_neg (by decide +kernel), if_pos (by decide)]
theorem mg2 : mergeS aFull ⟨[], [], []⟩ = (.none, 8) := mergeS_e2 fFull (by decide +kernel)
theorem vl1 : valS aFull 1 = ((0, 0), 2) := by decide +kernel
theorem mn0 : meanS aFull 0 = ((0, 0), 18) := by decide +kernel
theorem vl0 : valS aFull 0 = ((999999999999999999, 0), 0) := by decide +kernel
theorem ad8 : addAcc aMost [(1, 1)] 300 1 = (.none, 4) := by
  have hu : uni gaps64 [(300, 1)] = (gaps64 ++ [(300, 1)], true) := uni_run (s := ⟨gaps64, (300, 1), []⟩) (by decide +kernel) (by unfold okG; decide) (by kernel_rfl)
  rw [addAcc_e0 fMost (by decide +kernel) (by decide +kernel)]
  refine mrg_e4 ?_ (by decide +kernel) (by decide +kernel) ?_
  · show (uni gaps64 [(300, 1)]).2 = true
    rw [hu]
  · show 64 < (uni gaps64 [(300, 1)]).1.length
    rw [hu]
    decide +kernel
theorem ad9 : addAcc aMost [(1, 1)] 1 2 = (aNear, 0) := by
  have hu : uni gaps64 [(1, 2)] = (near63, true) := uni_run (s := ⟨[], (0, 4), fullL (fun r => gapF (r + 2)) 62⟩) (by decide +kernel) (by unfold okG; decide) (by kernel_rfl)
  rw [addAcc_e0 fMost (by decide +kernel) (by decide +kernel)]
  exact mrg_is hu (by decide +kernel) (by decide +kernel) (by decide +kernel) (by decide +kernel) (by decide +kernel)
end Go.Proofs.Ytjhigfhgchpjcaa
