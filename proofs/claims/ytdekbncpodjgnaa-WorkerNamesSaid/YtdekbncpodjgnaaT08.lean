/-
  Parts of the proof of WorkerNames: AccL.
-/
import Derived.Test.YtdekbncpodjgnaaT05
namespace Go.Proofs.Ytdekbncpodjgnaa
open Runs Lagc
set_option linter.unusedVariables false
set_option linter.unusedSimpArgs false
theorem mergeS_fine {a b : Acc} (ha : Fine a) (hb : Fine b) (h : a.s.length = b.s.length) : mergeS a b = mrg a b := by
 unfold mergeS
 rw [if_neg (by rw [acc_fine.2 ha]; simp), if_neg (by rw [acc_fine.2 hb]; simp), if_neg (by simpa using h)]
theorem fullL_mem {α : Type} {f : Nat → α} {n : Nat} {x : α} (h : x ∈ fullL f n) : ∃ k, k < n ∧ f k = x := by
 simpa [fullL] using h
theorem getD_mem {α : Type} {l : List α} {d : α} {k : Nat} (h : k < l.length) : l.getD k d ∈ l := by rw [getD_lt _ _ h]; exact List.getElem_mem _
theorem addL_len (a b : List (Int × Int)) : (addL a b).length = a.length := fullL_len _ _
theorem addL_getD {a b : List (Int × Int)} {k : Nat} (hk : k < a.length) : (addL a b).getD k (0, 0) = addC (a.getD k (0, 0)) (b.getD k (0, 0)) := fullL_getD _ _ _ _ hk
theorem val_addL {a b : List (Int × Int)} {k : Nat} (hk : k < a.length) : val ((addL a b).getD k (0, 0)) = val (a.getD k (0, 0)) + val (b.getD k (0, 0)) := by
 rw [addL_getD hk, addC, val_cnt]
theorem mrg_ok {a b : Acc} (h : (mrg a b).2 = 0) : (uni a.g b.g).2 = true ∧ rngB a.s b.s = true ∧ rngB a.n b.n = true ∧ (uni a.g b.g).1.length ≤ 64 ∧ mrg a b = (⟨addL a.s b.s, addL a.n b.n, (uni a.g b.g).1⟩, 0) := by
 unfold mrg at h ⊢
 by_cases h1 : (uni a.g b.g).2 = false
 ·rw [if_pos h1] at h; cases h
 rw [if_neg h1] at h ⊢
 by_cases h2 : rngB a.s b.s = false ∨ rngB a.n b.n = false
 ·rw [if_pos h2] at h; cases h
 rw [if_neg h2] at h ⊢
 by_cases h3 : 64 < (uni a.g b.g).1.length
 ·rw [if_pos h3] at h; cases h
 rw [if_neg h3] at h ⊢
 refine ⟨by simpa using h1, ?_, ?_, by omega, rfl⟩
 ·cases e : rngB a.s b.s
  ·exact absurd (.inl e) h2
  ·rfl
 ·cases e : rngB a.n b.n
  ·exact absurd (.inr e) h2
  ·rfl
theorem cnt_fit (v : Int) : 0 ≤ (cnt v).2 ∧ (cnt v).2 < 1000000000 := by unfold cnt; simp only []; omega
theorem mrg_fine {a b : Acc} (ha : Fine a) (hb : Fine b) (hl : a.s.length = b.s.length) (h : (mrg a b).2 = 0) : Fine (mrg a b).1 := by
 obtain ⟨h1, h2, h3, h4, h5⟩ := mrg_ok h
 rw [h5]
 have hg := uni_good h1
 have en : a.n.length = b.n.length := by rw [ha.ln, hb.ln, hl]
 refine ⟨by rw [addL_len]; exact ha.ls, by rw [addL_len, addL_len]; exact ha.ln, h4, by rw [addL_len]; exact ha.odd, hg.rn, ?_, ?_⟩
 ·intro x hx
  obtain ⟨k, hk, rfl⟩ := fullL_mem hx
  have e1 := rngB_at h2 hk
  have e2 := cnt_fit (val (a.s.getD k (0, 0)) + val (b.s.getD k (0, 0)))
  unfold inR at e1
  rw [decide_eq_true_eq] at e1
  exact ⟨e2.1, e2.2, e1.1, e1.2⟩
 ·intro x hx
  obtain ⟨k, hk, rfl⟩ := fullL_mem hx
  have e1 := rngB_at h3 hk
  have e2 := cnt_fit (val (a.n.getD k (0, 0)) + val (b.n.getD k (0, 0)))
  unfold inR at e1
  rw [decide_eq_true_eq] at e1
  refine ⟨e2.1, e2.2, ?_, e1.2⟩
  have f1 := ha.n _ (getD_mem (d := (0, 0)) hk)
  have f2 := hb.n _ (getD_mem (d := (0, 0)) (show k < b.n.length by omega))
  show 0 ≤ (val (a.n.getD k (0, 0)) + val (b.n.getD k (0, 0))) / 1000000000
  unfold val
  omega
noncomputable def addAcc (a : Acc) (l : List (Int × Int)) (at_ many : Int) : Acc × Int :=
 if accErr a ≠ 0 then (.none, accErr a) else if lagErr l ≠ 0 then (.none, lagErr l) else if addArg a l at_ many = true then (.none, 2) else mrg a (lagAcc l at_ many)
theorem lagErr_zero {l : List (Int × Int)} (h : lagErr l = 0) : l.length ≤ 511 ∧ l.length % 2 = 1 ∧ ∀ x ∈ l, okLag x = true := by
 unfold lagErr at h
 by_cases h1 : 511 < l.length
 ·rw [if_pos h1] at h; cases h
 rw [if_neg h1] at h
 by_cases h2 : l.length % 2 = 0
 ·rw [if_pos h2] at h; cases h
 rw [if_neg h2] at h
 by_cases h3 : l.all okLag = true
 ·exact ⟨by omega, by omega, by simpa using h3⟩
 ·rw [if_neg h3] at h; cases h
theorem okLag_bd {x : Int × Int} (h : okLag x = true) : 0 ≤ x.2 ∧ x.2 ≤ 256 ∧ -2304 ≤ x.1 ∧ x.1 ≤ 2304 := by
 unfold okLag at h
 rw [decide_eq_true_eq] at h
 omega
theorem addArg_no {a : Acc} {l : List (Int × Int)} {at_ many : Int} (h : addArg a l at_ many = false) : l.length = a.s.length ∧ 1 ≤ many ∧ many ≤ 256 ∧ 0 ≤ at_ ∧ at_ + many ≤ 1000000000 := by
 unfold addArg at h
 rw [decide_eq_false_iff_not] at h
 omega
theorem lagAcc_fine {l : List (Int × Int)} {at_ many : Int} (hl : lagErr l = 0) (h1 : 1 ≤ many) (h2 : 0 ≤ at_) (h3 : at_ + many ≤ 1000000000) : Fine (lagAcc l at_ many) := by
 obtain ⟨e1, e2, e3⟩ := lagErr_zero hl
 have hs : (lagAcc l at_ many).s.length = l.length := fullL_len _ _
 have hn : (lagAcc l at_ many).n.length = l.length := fullL_len _ _
 refine ⟨by omega, by omega, by simp [lagAcc], by omega, Rn_one ⟨h2, h1, h3⟩, ?_, ?_⟩
 ·intro x hx
  obtain ⟨k, hk, rfl⟩ := fullL_mem hx
  have := okLag_bd (e3 _ (getD_mem (d := (0, 0)) hk))
  unfold cnt
  simp only []
  omega
 ·intro x hx
  obtain ⟨k, hk, rfl⟩ := fullL_mem hx
  have := okLag_bd (e3 _ (getD_mem (d := (0, 0)) hk))
  unfold cnt
  simp only []
  omega
theorem addAcc_fine {a : Acc} {l : List (Int × Int)} {at_ many : Int} (ha : Fine a) (hl : lagErr l = 0) (h : addArg a l at_ many = false) : addAcc a l at_ many = mergeS a (lagAcc l at_ many) ∧ Fine (lagAcc l at_ many) := by
 obtain ⟨h1, h2, h3, h4, h5⟩ := addArg_no h
 have hf := lagAcc_fine hl h2 h4 h5
 refine ⟨?_, hf⟩
 unfold addAcc
 rw [if_neg (by rw [acc_fine.2 ha]; simp), if_neg (by rw [hl]; simp), h, if_neg (by simp), mergeS_fine ha hf]
 show a.s.length = (fullL _ _).length
 rw [fullL_len, h1]
end Go.Proofs.Ytdekbncpodjgnaa
