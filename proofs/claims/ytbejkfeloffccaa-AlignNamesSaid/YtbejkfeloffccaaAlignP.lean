/-
  Parts of a recording; what Put answers; contract: align.Put.
-/
import Derived.Test.YtbejkfeloffccaaAlignO
namespace Go.Proofs.Ytbejkfeloffccaa
open Go.RowKit
set_option linter.unusedVariables false

/-- Where a part of a slice of blocks begins. -/
def subA (A : Option Addr) (lo m : Nat) : Option Addr := if m = lo then A else A.map (fun a => a.add (lo * 2))
theorem size_block : (sizeOf (Try.prog.elem 37)).run Try.prog = fun w => .ok 2 w := by
  funext w
  have h : Try.prog.elem 37 = 47 := by kernel_rfl
  obtain ⟨j0, hj0, hy0, hy1, hy2⟩ := info_parts info_block
  rw [h]
  simp [sizeOf, typeInfo, hj0, hy1]
theorem und_blocks : Try.prog.underlying 37 = some (.slice (Try.prog.elem 37)) := by kernel_rfl
theorem sub_run (A : Option Addr) (len cap lo hi mx : Nat) (h1 : lo ≤ hi) (h2 : hi ≤ mx) (h3 : mx ≤ cap) (w : World) :
    (Instr.slice 37 (.slice A len cap) (some (.int .i64 (lo : Int))) (some (.int .i64 (hi : Int))) (some (.int .i64 (mx : Int)))).run Try.prog w = .ok (.slice (subA A lo mx) (hi - lo) (mx - lo)) w := by
  rw [run_slice_lhm w _ _ _ _ und_blocks .i64 .i64 .i64 lo hi mx (by omega) (by omega) (by omega) (by omega), size_block]
  simp [sliced, subA, Result.andThen]
theorem sub_run0 (A : Option Addr) (len cap hi mx : Nat) (h2 : hi ≤ mx) (h3 : mx ≤ cap) (w : World) :
    (Instr.slice 37 (.slice A len cap) none (some (.int .i64 (hi : Int))) (some (.int .i64 (mx : Int)))).run Try.prog w = .ok (.slice (subA A 0 mx) hi mx) w := by
  rw [run_slice_hm w _ _ _ _ und_blocks .i64 .i64 hi mx (by omega) (by omega) (by omega), size_block]
  simp [sliced, subA, Result.andThen]
theorem RB.sub {w : World} {A : Option Addr} {l : List (Int × List Int)} (h : RB w A l) {lo hi mx : Nat} (h1 : lo ≤ hi) (h2 : hi ≤ l.length) (h3 : hi ≤ mx) : RB w (subA A lo mx) ((l.drop lo).take (hi - lo)) := by
  intro h0
  have hlen : ((l.drop lo).take (hi - lo)).length = hi - lo := by simp; omega
  rw [hlen] at h0
  obtain ⟨b, off, rfl, hlt, hc⟩ := h (by omega)
  refine ⟨b, off + lo * 2, ?_, hlt, fun j hj => ?_⟩
  · unfold subA
    rw [if_neg (by omega)]
    simp [Addr.add]
  · rw [hlen] at hj
    obtain ⟨k1, A', c', k2, k3, k4⟩ := hc (lo + j) (by omega)
    have e : ((l.drop lo).take (hi - lo))[j]'(by rw [hlen]; exact hj) = l[lo + j]'(by omega) := by simp
    rw [e]
    have e1 : off + lo * 2 + j * 2 = off + (lo + j) * 2 := by omega
    rw [e1]
    exact ⟨k1, A', c', k2, k3, k4⟩
/-- How many elements at the head have a property. -/
def heads {α : Type} (p : α → Bool) (l : List α) : Nat := (l.takeWhile p).length
theorem heads_eq {α : Type} {p : α → Bool} {l : List α} {k : Nat} (hk : k ≤ l.length) (h : ∀ j (hj : j < l.length), j < k → p l[j] = true) (h2 : ∀ hj : k < l.length, p l[k] = false) : heads p l = k := by
  unfold heads
  induction l generalizing k with
  | nil => simp at hk; subst hk; rfl
  | cons a l ih =>
    cases k with
    | zero =>
      have := h2 (by simp)
      simp only [List.getElem_cons_zero] at this
      rw [List.takeWhile_cons, this]
      rfl
    | succ k =>
      have h3 := h 0 (by simp) (by omega)
      simp only [List.getElem_cons_zero] at h3
      rw [List.takeWhile_cons, h3]
      simp only [if_true, List.length_cons]
      rw [ih (by simpa using hk) (fun j hj hjk => h (j + 1) (Nat.succ_lt_succ hj) (by omega)) (fun hj => h2 (Nat.succ_lt_succ hj))]
def loOf (l : List (Int × List Int)) (b : Int × List Int) : Nat := heads (fun x => decide (endB x < b.1)) l
def hiOf (l : List (Int × List Int)) (b : Int × List Int) : Nat := loOf l b + heads (fun x => decide (x.1 ≤ endB b)) (l.drop (loOf l b))
def midOf (l : List (Int × List Int)) (b : Int × List Int) : List (Int × List Int) := (l.drop (loOf l b)).take (hiOf l b - loOf l b)
def putL (l : List (Int × List Int)) (b : Int × List Int) : List (Int × List Int) := l.take (loOf l b) ++ [(jFrom (midOf l b) b, jS (midOf l b) b)] ++ l.drop (hiOf l b)
def putS (l : List (Int × List Int)) (b : Int × List Int) : List (Int × List Int) × Int :=
  if recErr l ≠ 0 then ([], recErr l) else if okB b = false then ([], 8) else if refAg l b = false then ([], 14)
  else if 256 < jTo (midOf l b) b - jFrom (midOf l b) b then ([], 16) else if 64 < (putL l b).length then ([], 4) else (putL l b, 0)
theorem put_err {l : List (Int × List Int)} {b : Int × List Int} (h : ¬ recErr l = 0) : putS l b = ([], recErr l) := by simp [putS, h]
theorem put_bad {l : List (Int × List Int)} {b : Int × List Int} (h : recErr l = 0) (h2 : okB b = false) : putS l b = ([], 8) := by simp [putS, h, h2]
theorem put_twice {l : List (Int × List Int)} {b : Int × List Int} (h : recErr l = 0) (h2 : okB b = true) (h3 : refAg l b = false) : putS l b = ([], 14) := by simp [putS, h, h2, h3]
theorem put_range {l : List (Int × List Int)} {b : Int × List Int} (h : recErr l = 0) (h2 : okB b = true) (h3 : refAg l b = true) (h4 : 256 < jTo (midOf l b) b - jFrom (midOf l b) b) : putS l b = ([], 16) := by simp [putS, h, h2, h3, h4]
theorem put_many {l : List (Int × List Int)} {b : Int × List Int} (h : recErr l = 0) (h2 : okB b = true) (h3 : refAg l b = true) (h4 : jTo (midOf l b) b - jFrom (midOf l b) b ≤ 256) (h5 : 64 < (putL l b).length) : putS l b = ([], 4) := by
  have : ¬ 256 < jTo (midOf l b) b - jFrom (midOf l b) b := by omega
  simp [putS, h, h2, h3, this, h5]
theorem put_ok {l : List (Int × List Int)} {b : Int × List Int} (h : recErr l = 0) (h2 : okB b = true) (h3 : refAg l b = true) (h4 : jTo (midOf l b) b - jFrom (midOf l b) b ≤ 256) (h5 : (putL l b).length ≤ 64) : putS l b = (putL l b, 0) := by
  have h6 : ¬ 256 < jTo (midOf l b) b - jFrom (midOf l b) b := by omega
  have h7 : ¬ 64 < (putL l b).length := by omega
  simp [putS, h, h2, h3, h6, h7]
def RetB (w : World) (r : List (Int × List Int) × Int) (e : Ending) (w' : World) : Prop :=
  ∃ A c, e = .returned (.tuple #[.slice A r.1.length c, .int .i64 r.2]) ∧ RBo w.heap.size w' A r.1 ∧ r.1.length ≤ c ∧ Below w.heap.size w w'
theorem RetB.nil {w w' : World} {x : Int} {r : List (Int × List Int) × Int} (hr : r = ([], x)) (hb : Below w.heap.size w w') : RetB w r (.returned (.tuple #[.slice none 0 0, .int .i64 x])) w' := by
  subst hr
  exact ⟨none, 0, rfl, fun h => absurd h (by simp), by simp, hb⟩
theorem Apart.sub {l : List (Int × List Int)} (h : Apart l) (lo n : Nat) : Apart ((l.drop lo).take n) := by
  constructor
  · intro j hj
    have hj' : lo + j < l.length := by simp at hj; omega
    have e : ((l.drop lo).take n)[j] = l[lo + j] := by simp
    rw [e]
    exact h.1 _ hj'
  · intro j hj
    have hj' : lo + j + 1 < l.length := by simp at hj; omega
    have e : ((l.drop lo).take n)[j]'(by omega) = l[lo + j] := by simp
    have e2 : ((l.drop lo).take n)[j + 1] = l[lo + j + 1] := by simp [Nat.add_assoc]
    rw [e, e2]
    exact h.2 _ hj'
end Go.Proofs.Ytbejkfeloffccaa
