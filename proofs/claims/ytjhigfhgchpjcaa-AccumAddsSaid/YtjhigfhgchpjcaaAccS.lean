/-
  Walk of the law AccumOrder.
-/
import Derived.Test.YtjhigfhgchpjcaaAccR
import Derived.Test.YtjhigfhgchpjcaaOpenA
namespace Go.Proofs.Ytjhigfhgchpjcaa
open Go.RowKit Runs Lagc Frac
set_option linter.unusedVariables false
set_option linter.unusedSimpArgs false

theorem InA.rg {a : Acc} (h : InA a) : ∀ x ∈ a.g, -9223372036854775808 ≤ x.1 ∧ x.1 ≤ 9223372036854775807 := fun x hx => (h.g x hx).1
theorem great_err {a : Acc} (h : greatB a = true) : accErr a ≠ 0 := by
  unfold greatB at h
  rw [decide_eq_true_eq] at h
  rw [err_many (by omega)]
  omega
theorem great_no {a : Acc} (h : greatB a = false) : a.s.length ≤ 600 ∧ a.n.length ≤ 600 ∧ a.g.length ≤ 100 := by
  unfold greatB at h
  rw [decide_eq_false_iff_not] at h
  omega
def fitB (a : Acc) : Bool := decide (accErr a = 0)
theorem fit18_any (S N G : Option Addr) (c1 c2 c3 : Nat) (a : Acc) (w : World) (hx : RA w S N G a) (hi : InA a) :
    Calls Try.prog 29 #[.agg #[.slice S a.s.length c1, .slice N a.n.length c2, .slice G a.g.length c3]] w fun e w' => e = .returned (.bool (fitB a)) ∧ Below w.heap.size w w' := by
  have hb0 : Below w.heap.size w (w.alloc (.cells #[.slice S a.s.length c1, .slice N a.n.length c2, .slice G a.g.length c3] 25)) := balloc (Below.refl _ _) _
  have hk := Blk.new w 25 #[.slice S a.s.length c1, .slice N a.n.length c2, .slice G a.g.length c3]
  have HG := fun w => great_any S N G c1 c2 c3 a w
  by_cases hg : greatB a = true
  · rw [hg] at HG
    have HE := Lib.hid (show fitB a = false by simpa [fitB] using great_err hg)
    clear hg
    go_enter Try.func29, Try.ntmps29
    go_wp2_with fail
    refine (HG _).mono ?_
    rintro _ w1 ⟨rfl, hb1⟩
    go_wp2
    go_ret
    exact ⟨ret_bool HE.out.symm, bstep hb0 hb1⟩
  · have hg' : greatB a = false := by simpa using hg
    rw [hg'] at HG
    obtain ⟨l1, l2, l3⟩ := great_no hg'
    have HC := fun w hx => refCheck_any S N G c1 c2 c3 a w hx (by omega) (by omega) (by omega) hi.rg
    have HE := Lib.hid (show fitB a = decide (accErr a = 0) from rfl)
    clear hg hg'
    generalize accErr a = E at *
    have hd : (E == 0) = decide (E = 0) := by rw [Bool.eq_iff_iff]; simp
    go_enter Try.func29, Try.ntmps29
    go_wp2_with fail
    refine (HG _).mono ?_
    rintro _ w1 ⟨rfl, hb1⟩
    have hkW := hk.keep hb1
    have q0 : World.cell? w1 ⟨w.heap.size, 0, none⟩ = some (.slice S a.s.length c1) := hkW.cell 0
    have f0 := hkW.frozen 0
    have q1 : World.cell? w1 ⟨w.heap.size, 1, none⟩ = some (.slice N a.n.length c2) := hkW.cell 1
    have f1 := hkW.frozen 1
    have q2 : World.cell? w1 ⟨w.heap.size, 2, none⟩ = some (.slice G a.g.length c3) := hkW.cell 2
    have f2 := hkW.frozen 2
    have fl := hkW.lt
    go_wp2_with fail
    refine (HC _ (hx.keep (bstep hb0 hb1))).mono ?_
    rintro _ w2 ⟨rfl, hb2⟩
    go_wp2
    go_ret
    exact ⟨ret_bool (by first | rw [HE.out] | (rw [HE.out]; exact hd)), bstep (bstep hb0 hb1) hb2⟩
theorem fit_yes {a : Acc} (h : Fine a) : fitB a = true := by simpa [fitB] using acc_fine.2 h
theorem fit_no {a : Acc} (h : ¬ Fine a) : fitB a = false := by
  unfold fitB
  rw [decide_eq_false_iff_not]
  exact fun e => h (acc_fine.1 e)
theorem merge_small {a b : Acc} (ha : Fine a) (hb : Fine b) : (mergeS a b).1.s.length ≤ 511 ∧ (mergeS a b).1.n.length ≤ 511 ∧ (mergeS a b).1.g.length ≤ 64 := by
  by_cases h : (mergeS a b).2 = 0
  · have hf := (merge_fine ha hb h).1
    exact ⟨hf.ls, by rw [hf.ln]; exact hf.ls, hf.lg⟩
  · have : (mergeS a b).1 = .none := by
      by_cases h2 : a.s.length = b.s.length
      · rw [mergeS_fine ha hb h2] at h ⊢
        exact mrg_none h
      · rw [mergeS_len ha hb h2]
    rw [this]
    simp [Acc.none]
theorem fine_rg {a : Acc} (h : Fine a) : ∀ x ∈ a.g, -9223372036854775808 ≤ x.1 ∧ x.1 ≤ 9223372036854775807 := fun x hx => by
  have := h.rn.1 x hx
  unfold okG at this
  omega
theorem sameB_self (a : Acc) : sameB a a = true := sameB_iff.2 rfl

/-- A variable that holds an accumulator. -/
structure VarA (w : World) (g : Nat) (S N G : Option Addr) (c1 c2 c3 : Nat) (a : Acc) : Prop where
  blk : Blk w g 25 #[.slice S a.s.length c1, .slice N a.n.length c2, .slice G a.g.length c3]
  ra : RA w S N G a
theorem VarA.keep {w w' : World} {g : Nat} {S N G : Option Addr} {c1 c2 c3 : Nat} {a : Acc} (h : VarA w g S N G c1 c2 c3 a) (hb : Below w.heap.size w w') : VarA w' g S N G c1 c2 c3 a := ⟨h.blk.keep hb, h.ra.keep hb⟩
theorem VarA.new {w : World} {S N G : Option Addr} {a : Acc} (h : RA w S N G a) (c1 c2 c3 : Nat) : VarA (w.alloc (.cells #[.slice S a.s.length c1, .slice N a.n.length c2, .slice G a.g.length c3] 25)) w.heap.size S N G c1 c2 c3 a := ⟨Blk.new _ _ _, h.keep (balloc (Below.refl _ _) _)⟩
theorem VarA.c0 {w : World} {g : Nat} {S N G : Option Addr} {c1 c2 c3 : Nat} {a : Acc} (h : VarA w g S N G c1 c2 c3 a) : w.cell? ⟨g, 0, none⟩ = some (.slice S a.s.length c1) := h.blk.cell 0
theorem VarA.c1 {w : World} {g : Nat} {S N G : Option Addr} {c1 c2 c3 : Nat} {a : Acc} (h : VarA w g S N G c1 c2 c3 a) : w.cell? ⟨g, 1, none⟩ = some (.slice N a.n.length c2) := h.blk.cell 1
theorem VarA.c2 {w : World} {g : Nat} {S N G : Option Addr} {c1 c2 c3 : Nat} {a : Acc} (h : VarA w g S N G c1 c2 c3 a) : w.cell? ⟨g, 2, none⟩ = some (.slice G a.g.length c3) := h.blk.cell 2
theorem VarA.lt {w : World} {g : Nat} {S N G : Option Addr} {c1 c2 c3 : Nat} {a : Acc} (h : VarA w g S N G c1 c2 c3 a) : g < w.heap.size := h.blk.lt
end Go.Proofs.Ytjhigfhgchpjcaa
