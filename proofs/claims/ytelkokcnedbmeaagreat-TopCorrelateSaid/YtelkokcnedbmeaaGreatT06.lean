/-
  Parts of the proof of TopCorrelate: AccA LagChk AccL.
-/
import Derived.Test.YtelkokcnedbmeaaGreatT05
import Derived.Test.YtelkokcnedbmeaaGreatT02
import Derived.Test.YtelkokcnedbmeaaGreatProg
import Derived.Deep.QuietTactic
import Derived.BigQuiet
import Derived.Deep.LoopGhost
import Derived.WalkSmall
namespace Go.Proofs.YtelkokcnedbmeaaGreat
open Runs
set_option maxRecDepth 20000
set_option linter.unusedVariables false
set_option linter.unusedSimpArgs false
structure Acc where
 s : List (Int × Int)
 n : List (Int × Int)
 g : List (Int × Int)
def Acc.none : Acc := ⟨[], [], []⟩
def wrongB (least : Int) (c : Int × Int) : Bool := decide (c.2 < 0) || decide (1000000000 ≤ c.2) || decide (c.1 < least) || decide (1000000000 ≤ c.1)
def gOk (l : List (Int × Int)) (j : Nat) : Bool :=
 decide (0 ≤ (l.getD j (0, 0)).1 ∧ 1 ≤ (l.getD j (0, 0)).2 ∧ (l.getD j (0, 0)).1 + (l.getD j (0, 0)).2 ≤ 1000000000 ∧ (j = 0 ∨ (l.getD (j - 1) (0, 0)).1 + (l.getD (j - 1) (0, 0)).2 < (l.getD j (0, 0)).1))
def runB (l : List (Int × Int)) : Bool := (List.range l.length).all (gOk l)
theorem runB_all {l : List (Int × Int)} : runB l = true ↔ ∀ j, j < l.length → gOk l j = true := by simp [runB]
theorem runB_no {l : List (Int × Int)} {j : Nat} (h : j < l.length) (h2 : gOk l j = false) : runB l = false := by
 rw [Bool.eq_false_iff, Ne, runB_all]
 intro h3
 rw [h3 j h] at h2
 cases h2
theorem gOk_bd {l : List (Int × Int)} {j : Nat} (hj : j < l.length) (h : gOk l j = true) : okG l[j] := by
 unfold gOk at h
 rw [getD_lt _ _ hj, decide_eq_true_eq] at h
 exact ⟨h.1, h.2.1, h.2.2.1⟩
theorem runB_iff {l : List (Int × Int)} : runB l = true ↔ Rn l := by
 rw [runB_all]
 constructor
 ·intro h
  have hok : ∀ j (hj : j < l.length), okG l[j] := fun j hj => gOk_bd hj (h j hj)
  refine ⟨fun g hg => ?_, ?_⟩
  ·obtain ⟨j, hj, rfl⟩ := List.getElem_of_mem hg
   exact hok j hj
  ·rw [List.pairwise_iff_getElem]
   have key : ∀ d i (hi : i + d + 1 < l.length), l[i].1 + l[i].2 < l[i + d + 1].1 := by
    intro d
    induction d with
    | zero =>
     intro i hi
     have h1 := h (i + 1) hi
     unfold gOk at h1
     rw [getD_lt _ _ hi, decide_eq_true_eq, Nat.add_sub_cancel, getD_lt _ _ (by omega)] at h1
     rcases h1.2.2.2 with h2 | h2
     ·omega
     ·exact h2
    | succ d ih =>
     intro i hi
     have h1 := ih i (by omega)
     have h2 := hok (i + d + 1) (by omega)
     have hi2 : i + d + 2 < l.length := by omega
     have h3 := h (i + d + 2) hi2
     unfold gOk at h3
     rw [getD_lt _ _ hi2, decide_eq_true_eq, show i + d + 2 - 1 = i + d + 1 by omega, getD_lt _ _ (by omega)] at h3
     unfold okG at h2
     rcases h3.2.2.2 with h4 | h4
     ·omega
     ·show l[i].1 + l[i].2 < l[i + d + 2].1
      omega
   intro i j hi hj hij
   have := key (j - i - 1) i (by omega)
   have e : i + (j - i - 1) + 1 = j := by omega
   simp only [e] at this
   exact this
 ·rintro ⟨h1, h2⟩ j hj
  have h3 := h1 _ (List.getElem_mem hj)
  unfold okG at h3
  unfold gOk
  rw [getD_lt _ _ hj, decide_eq_true_eq]
  refine ⟨h3.1, h3.2.1, h3.2.2, ?_⟩
  by_cases h0 : j = 0
  ·exact .inl h0
  ·refine .inr ?_
   rw [getD_lt _ _ (by omega)]
   exact List.pairwise_iff_getElem.1 h2 (j - 1) j (by omega) hj (by omega)
def accErr (a : Acc) : Int :=
 if 511 < a.s.length ∨ 511 < a.n.length ∨ 64 < a.g.length then 4
 else if a.s.length ≠ a.n.length ∨ a.s.length % 2 = 0 ∨ runB a.g = false then 8
 else if a.s.any (wrongB (-1000000000)) || a.n.any (wrongB 0) then 8 else 0
structure Fine (a : Acc) : Prop where
 ls : a.s.length ≤ 511
 ln : a.n.length = a.s.length
 lg : a.g.length ≤ 64
 odd : a.s.length % 2 = 1
 rn : Rn a.g
 s : ∀ x ∈ a.s, 0 ≤ x.2 ∧ x.2 < 1000000000 ∧ -1000000000 ≤ x.1 ∧ x.1 < 1000000000
 n : ∀ x ∈ a.n, 0 ≤ x.2 ∧ x.2 < 1000000000 ∧ 0 ≤ x.1 ∧ x.1 < 1000000000
theorem wrongB_no {least : Int} {c : Int × Int} : wrongB least c = false ↔ 0 ≤ c.2 ∧ c.2 < 1000000000 ∧ least ≤ c.1 ∧ c.1 < 1000000000 := by
 simp [wrongB]
 omega
theorem anyW_no {least : Int} {l : List (Int × Int)} : l.any (wrongB least) = false ↔ ∀ x ∈ l, 0 ≤ x.2 ∧ x.2 < 1000000000 ∧ least ≤ x.1 ∧ x.1 < 1000000000 := by
 rw [Bool.eq_false_iff, Ne, List.any_eq_true]
 constructor
 ·intro h x hx
  rw [← wrongB_no]
  cases h2 : wrongB least x
  ·rfl
  ·exact absurd ⟨x, hx, h2⟩ h
 ·rintro h ⟨x, hx, h2⟩
  rw [wrongB_no.2 (h x hx)] at h2
  cases h2
theorem acc_fine {a : Acc} : accErr a = 0 ↔ Fine a := by
 unfold accErr
 constructor
 ·intro h
  by_cases h1 : 511 < a.s.length ∨ 511 < a.n.length ∨ 64 < a.g.length
  ·rw [if_pos h1] at h; omega
  rw [if_neg h1] at h
  by_cases h2 : a.s.length ≠ a.n.length ∨ a.s.length % 2 = 0 ∨ runB a.g = false
  ·rw [if_pos h2] at h; omega
  rw [if_neg h2] at h
  by_cases h3 : (a.s.any (wrongB (-1000000000)) || a.n.any (wrongB 0)) = true
  ·rw [if_pos h3] at h; omega
  have h4 : a.s.any (wrongB (-1000000000)) = false ∧ a.n.any (wrongB 0) = false := by simpa using h3
  have h5 : runB a.g = true := by
   cases e : runB a.g
   ·exact absurd (.inr (.inr e)) h2
   ·rfl
  exact ⟨by omega, by omega, by omega, by omega, runB_iff.1 h5, anyW_no.1 h4.1, anyW_no.1 h4.2⟩
 ·intro h
  have := h.ls; have := h.ln; have := h.lg; have := h.odd
  have h5 := runB_iff.2 h.rn
  have h4 := anyW_no.2 h.s
  have h6 := anyW_no.2 h.n
  rw [if_neg (by omega), if_neg (by rw [h5]; simp; omega), h4, h6]
  rfl
def val (c : Int × Int) : Int := c.1 * 1000000000 + c.2
def cnt (v : Int) : Int × Int := (v / 1000000000, v % 1000000000)
theorem val_cnt (v : Int) : val (cnt v) = v := by unfold val cnt; simp only []; omega
theorem cnt_val {c : Int × Int} (h1 : 0 ≤ c.2) (h2 : c.2 < 1000000000) : cnt (val c) = c := by
 unfold val cnt
 exact Prod.ext (by simp only []; omega) (by simp only []; omega)
def addC (a b : Int × Int) : Int × Int := cnt (val a + val b)
def inR (c : Int × Int) : Bool := decide (-1000000000 ≤ c.1 ∧ c.1 < 1000000000)
def addF (a b : List (Int × Int)) (k : Nat) : Int × Int := addC (a.getD k (0, 0)) (b.getD k (0, 0))
def addL (a b : List (Int × Int)) : List (Int × Int) := fullL (addF a b) a.length
def rngB (a b : List (Int × Int)) : Bool := (addL a b).all inR
theorem rngB_no {a b : List (Int × Int)} {k : Nat} (hk : k < a.length) (h : inR (addF a b k) = false) : rngB a b = false := by
 rw [Bool.eq_false_iff, Ne, rngB, List.all_eq_true]
 intro h2
 have hm : (addL a b)[k]'(by rw [addL, fullL_len]; exact hk) ∈ addL a b := List.getElem_mem _
 have := h2 _ hm
 unfold addL at this
 rw [fullL_get] at this
 rw [this] at h
 cases h
theorem rngB_yes {a b : List (Int × Int)} (h : ∀ k, k < a.length → inR (addF a b k) = true) : rngB a b = true := by
 rw [rngB, List.all_eq_true]
 intro x hx
 obtain ⟨k, hk, rfl⟩ := List.getElem_of_mem hx
 unfold addL at hk ⊢
 rw [fullL_get]
 exact h k (by simpa [fullL] using hk)
theorem rngB_at {a b : List (Int × Int)} (h : rngB a b = true) {k : Nat} (hk : k < a.length) : inR (addF a b k) = true := by
 cases e : inR (addF a b k)
 ·rw [rngB_no hk e] at h; cases h
 ·rfl
noncomputable def mrg (a b : Acc) : Acc × Int :=
 if (uni a.g b.g).2 = false then (.none, 14)
 else if rngB a.s b.s = false ∨ rngB a.n b.n = false then (.none, 16)
 else if 64 < (uni a.g b.g).1.length then (.none, 4)
 else (⟨addL a.s b.s, addL a.n b.n, (uni a.g b.g).1⟩, 0)
noncomputable def mergeS (a b : Acc) : Acc × Int :=
 if accErr a ≠ 0 then (.none, accErr a) else if accErr b ≠ 0 then (.none, accErr b) else if a.s.length ≠ b.s.length then (.none, 2) else mrg a b
def lagAcc (l : List (Int × Int)) (at_ many : Int) : Acc := ⟨fullL (fun k => cnt (l.getD k (0, 0)).1) l.length, fullL (fun k => cnt (l.getD k (0, 0)).2) l.length, [(at_, many)]⟩
def addArg (a : Acc) (l : List (Int × Int)) (at_ many : Int) : Bool := decide (l.length ≠ a.s.length ∨ many < 1 ∨ 256 < many ∨ at_ < 0 ∨ 1000000000 - many < at_)
def newS (m : Int) : Acc × Int := if m < 0 ∨ 255 < m then (.none, 2) else (⟨List.replicate (2 * m.toNat + 1) (0, 0), List.replicate (2 * m.toNat + 1) (0, 0), []⟩, 0)
def valS (a : Acc) (lag : Int) : (Int × Int) × Int :=
 if accErr a ≠ 0 then ((0, 0), accErr a) else if lag < -((a.s.length / 2 : Nat) : Int) ∨ ((a.s.length / 2 : Nat) : Int) < lag then ((0, 0), 2)
 else ((val (a.s.getD (lag + (a.s.length / 2 : Nat)).toNat (0, 0)), val (a.n.getD (lag + (a.s.length / 2 : Nat)).toNat (0, 0))), 0)
end Go.Proofs.YtelkokcnedbmeaaGreat
namespace Go.Proofs.YtelkokcnedbmeaaGreat
open Go.RowKit
set_option maxRecDepth 20000
set_option linter.unusedVariables false
namespace Lagc
theorem all_lt_succ {p : Nat → Prop} {k : Nat} (h : ∀ j, j < k → p j) (hk : p k) : ∀ j, j < k + 1 → p j := by
 intro j hj
 rcases Nat.lt_or_ge j k with h1 | h1
 ·exact h j h1
 ·obtain rfl : j = k := by omega
  exact hk
def okLag (a : Int × Int) : Bool := decide (0 ≤ a.2 ∧ a.2 ≤ 256 ∧ -9 * a.2 ≤ a.1 ∧ a.1 ≤ 9 * a.2 ∧ (a.1 - a.2) % 2 = 0)
def lagErr (l : List (Int × Int)) : Int := if 511 < l.length then 4 else if l.length % 2 = 0 then 8 else if l.all okLag then 0 else 8
theorem lagErr_many {l : List (Int × Int)} (h : 511 < l.length) : lagErr l = 4 := by unfold lagErr; rw [if_pos h]
theorem lagErr_even {l : List (Int × Int)} (h : l.length ≤ 511) (h2 : l.length % 2 = 0) : lagErr l = 8 := by unfold lagErr; rw [if_neg (by omega), if_pos h2]
theorem lagErr_bad {l : List (Int × Int)} {k : Nat} (h : l.length ≤ 511) (hk : k < l.length) (h2 : okLag l[k] = false) : lagErr l = 8 := by
 unfold lagErr
 rw [if_neg (by omega)]
 split
 ·rfl
 ·rw [if_neg]
  simp only [List.all_eq_true]
  intro h3
  have := h3 _ (List.getElem_mem hk)
  simp [h2] at this
theorem lagErr_ok {l : List (Int × Int)} (h : l.length ≤ 511) (h1 : ¬ l.length % 2 = 0) (h2 : ∀ x ∈ l, okLag x = true) : lagErr l = 0 := by
 unfold lagErr
 rw [if_neg (by omega), if_neg h1, if_pos (by simpa using h2)]
theorem takeAll_snoc {α : Type} {p : α → Prop} {xs : List α} {k : Nat} (hk : k < xs.length) (h : ∀ x ∈ xs.take k, p x) (h2 : p xs[k]) : ∀ x ∈ xs.take (k + 1), p x := by
 intro x hx
 rw [List.take_succ_eq_append_getElem hk] at hx
 simp only [List.mem_append, List.mem_singleton] at hx
 rcases hx with hx | rfl
 ·exact h x hx
 ·exact h2
theorem takeAll_end {α : Type} {p : α → Prop} {xs : List α} {k : Nat} (hk : xs.length ≤ k) (h : ∀ x ∈ xs.take k, p x) : ∀ x ∈ xs, p x := by
 rwa [List.take_of_length_le hk] at h
theorem tmod2_iff (x : Int) : x.tmod 2 = 0 ↔ x % 2 = 0 :=
 ⟨fun h => Int.emod_eq_zero_of_dvd (Int.dvd_of_tmod_eq_zero h), fun h => Int.tmod_eq_zero_of_dvd (Int.dvd_of_emod_eq_zero h)⟩
theorem okLag_no {a : Int × Int} (h : a.2 < 0 ∨ 256 < a.2 ∨ a.1 < -9 * a.2 ∨ 9 * a.2 < a.1) : okLag a = false := by
 simp only [okLag, decide_eq_false_iff_not]; omega
theorem okLag_odd {a : Int × Int} (h : ((a.1 - a.2).tmod 2 != 0) = true) : okLag a = false := by
 have h2 : ¬ (a.1 - a.2) % 2 = 0 := by rw [← tmod2_iff]; simpa using h
 simp only [okLag, decide_eq_false_iff_not]; omega
theorem okLag_yes {a : Int × Int} (h1 : 0 ≤ a.2) (h2 : a.2 ≤ 256) (h3 : -9 * a.2 ≤ a.1) (h4 : a.1 ≤ 9 * a.2) (h : ((a.1 - a.2).tmod 2 != 0) = false) : okLag a = true := by
 have h5 : (a.1 - a.2) % 2 = 0 := by rw [← tmod2_iff]; simpa using h
 simp only [okLag, decide_eq_true_eq]; omega
theorem lagCheck_any (A : Option Addr) (c : Nat) (l : List (Int × Int)) (w : World) (hx : RL w A l) (hl : l.length ≤ 140737488355328) :
 Calls Tryz.prog 46 #[.slice A l.length c] w fun e w' => e = .returned (.int .i64 (lagErr l)) ∧ Below w.heap.size w w' := by
 by_cases hp : l.length % 2 = 0
 ·have h2 : ((l.length : Int) % 2 == 0) = true := by simp; omega
  have HP := Lib.hid hp
  clear hp
  go_enter Tryz.func46, Tryz.ntmps46
  go_wp2
  ·go_ret
   exact ⟨ret_int (lagErr_many (by omega)).symm, Below.refl _ _⟩
  ·go_ret
   exact ⟨ret_int (lagErr_even (by omega) HP.out).symm, Below.refl _ _⟩
 have h2 : ((l.length : Int) % 2 == 0) = false := by simp; omega
 go_enter Tryz.func46, Tryz.ntmps46
 go_wp2
 ·go_ret
  exact ⟨ret_int (lagErr_many (by omega)).symm, Below.refl _ _⟩
 go_loopg [4, 14] l.length (fun gk _ i wr => ∃ k : Nat, k + gk = l.length ∧ i = .int .i64 k ∧ Below w.heap.size w wr ∧ Hid (∀ x ∈ l.take k, okLag x = true))
 case atStart => exact ⟨0, by omega, rfl, Below.refl _ _, Lib.hid (by simp)⟩
 case round =>
  obtain ⟨k, hk, rfl, hb, hall⟩ := hrel
  have hk' : k ≤ l.length := by omega
  have HK := Lib.hid hk
  clear hk
  by_cases hlt : k < l.length
  ·obtain ⟨b, off, rfl, _, hc1, hc2⟩ := (hx.keep hb).at_ hlt
   go_wp2
   all_goals first
    |(go_ret; exact ⟨ret_int (lagErr_bad (by omega) hlt (by first | exact okLag_odd (by assumption) | exact okLag_no (by omega))).symm, hb.alloc hb.size _⟩)
    |(go_roundg (gk - 1)
      case rel => exact ⟨k + 1, by have := HK.out; omega, by go_num, hb.alloc hb.size _, Lib.hid (takeAll_snoc hlt hall.out (okLag_yes (by omega) (by omega) (by omega) (by omega) (by assumption)))⟩
      case measure => have := HK.out; omega)
  ·go_wp2
   go_ret
   exact ⟨ret_int (lagErr_ok (by omega) hp (takeAll_end (by omega) hall.out)).symm, hb⟩
theorem even_any (x : Int) (w : World) :
 Calls Tryz.prog 26 #[.int .i64 x] w fun e w' => e = .returned (.bool (x.tmod 2 == 0)) ∧ w = w' := by
 go_enter Tryz.func26, Tryz.ntmps26
 go_wp2
 go_ret
 exact ⟨rfl, rfl⟩
theorem okLag_par {a : Int × Int} (h : (!((a.1.tmod 2 == 0) == (a.2 % 2 == 0))) = true) : okLag a = false := by
 have e : (a.1.tmod 2 == 0) = (a.1 % 2 == 0) := by rw [Bool.eq_iff_iff]; simp [tmod2_iff]
 rw [e] at h
 have h2 : ¬ (a.1 - a.2) % 2 = 0 := by
  rcases Int.emod_two_eq a.1 with h1 | h1 <;> rcases Int.emod_two_eq a.2 with h3 | h3 <;> simp [h1, h3] at h <;> omega
 simp only [okLag, decide_eq_false_iff_not]; omega
theorem okLag_same {a : Int × Int} (h1 : 0 ≤ a.2) (h2 : a.2 ≤ 256) (h3 : -9 * a.2 ≤ a.1) (h4 : a.1 ≤ 9 * a.2) (h : (!((a.1.tmod 2 == 0) == (a.2 % 2 == 0))) = false) : okLag a = true := by
 have e : (a.1.tmod 2 == 0) = (a.1 % 2 == 0) := by rw [Bool.eq_iff_iff]; simp [tmod2_iff]
 rw [e] at h
 have h5 : (a.1 - a.2) % 2 = 0 := by
  rcases Int.emod_two_eq a.1 with h6 | h6 <;> rcases Int.emod_two_eq a.2 with h7 | h7 <;> simp [h6, h7] at h <;> omega
 simp only [okLag, decide_eq_true_eq]; omega
theorem refCheck16_any (A : Option Addr) (c : Nat) (l : List (Int × Int)) (w : World) (hx : RL w A l) (hl : l.length ≤ 140737488355328) :
 Calls Tryz.prog 9 #[.slice A l.length c] w fun e w' => e = .returned (.int .i64 (lagErr l)) ∧ Below w.heap.size w w' := by
 by_cases hp : l.length % 2 = 0
 ·have h2 : ((l.length : Int).tmod 2 == 0) = true := by rw [beq_iff_eq, tmod2_iff]; omega
  have HP := Lib.hid hp
  clear hp
  go_enter Tryz.func9, Tryz.ntmps9
  go_wp2_with (go_at_call 26; refine (even_any _ _).mono ?_; rintro e w' ⟨rfl, rfl⟩)
  ·go_ret
   exact ⟨ret_int (lagErr_many (by omega)).symm, Below.refl _ _⟩
  ·go_ret
   exact ⟨ret_int (lagErr_even (by omega) HP.out).symm, Below.refl _ _⟩
 have h2 : ((l.length : Int).tmod 2 == 0) = false := by rw [beq_eq_false_iff_ne, Ne, tmod2_iff]; omega
 go_enter Tryz.func9, Tryz.ntmps9
 go_wp2_with (go_at_call 26; refine (even_any _ _).mono ?_; rintro e w' ⟨rfl, rfl⟩)
 ·go_ret
  exact ⟨ret_int (lagErr_many (by omega)).symm, Below.refl _ _⟩
 go_loopg [3, 4] l.length (fun gk i _ wr => ∃ k : Nat, k + gk = l.length ∧ i = .int .i64 k ∧ Below w.heap.size w wr ∧ Hid (∀ x ∈ l.take k, okLag x = true))
 case atStart => exact ⟨0, by omega, rfl, Below.refl _ _, Lib.hid (by simp)⟩
 case round =>
  obtain ⟨k, hk, rfl, hb, hall⟩ := hrel
  have hk' : k ≤ l.length := by omega
  have HK := Lib.hid hk
  clear hk
  by_cases hlt : k < l.length
  ·obtain ⟨b, off, rfl, _, hc1, hc2⟩ := (hx.keep hb).at_ hlt
   by_cases q1 : l[k].2 < 0
   ·go_wp2
    go_quiet (fail)
    go_wp2
    go_ret
    exact ⟨ret_int (lagErr_bad (by omega) hlt (okLag_no (by omega))).symm, below_drewN (hb.alloc hb.size _) _⟩
   have d1 : decide (l[k].2 < 0) = false := by simpa using q1
   by_cases q2 : 256 < l[k].2
   ·go_wp2
    go_quiet (fail)
    go_wp2
    go_ret
    exact ⟨ret_int (lagErr_bad (by omega) hlt (okLag_no (by omega))).symm, below_drewN (hb.alloc hb.size _) _⟩
   have d2 : decide (256 < l[k].2) = false := by simpa using q2
   by_cases q3 : l[k].1 < -9 * l[k].2
   ·go_wp2
    go_quiet (fail)
    go_wp2
    go_ret
    exact ⟨ret_int (lagErr_bad (by omega) hlt (okLag_no (by omega))).symm, below_drewN (hb.alloc hb.size _) _⟩
   have d3 : decide (l[k].1 < -9 * l[k].2) = false := by simpa using q3
   by_cases q4 : 9 * l[k].2 < l[k].1
   ·go_wp2
    go_quiet (fail)
    go_wp2
    go_ret
    exact ⟨ret_int (lagErr_bad (by omega) hlt (okLag_no (by omega))).symm, below_drewN (hb.alloc hb.size _) _⟩
   have d4 : decide (9 * l[k].2 < l[k].1) = false := by simpa using q4
   go_wp2
   go_quiet ((go_at_call 26; exact quiet_left (even_any _ _)))
   go_wp2
   ·have hq : (!((l[k].1.tmod 2 == 0) == (l[k].2 % 2 == 0))) = true := by assumption
    go_ret
    exact ⟨ret_int (lagErr_bad (by omega) hlt (okLag_par hq)).symm, below_drewN (hb.alloc hb.size _) _⟩
   ·have hq : (!((l[k].1.tmod 2 == 0) == (l[k].2 % 2 == 0))) = false := by assumption
    go_roundg (gk - 1)
    case rel => exact ⟨k + 1, by have := HK.out; omega, by go_num, below_drewN (hb.alloc hb.size _) _, Lib.hid (takeAll_snoc hlt hall.out (okLag_same (by omega) (by omega) (by omega) (by omega) hq))⟩
    case measure => have := HK.out; omega
  ·go_wp2
   go_ret
   exact ⟨ret_int (lagErr_ok (by omega) hp (takeAll_end (by omega) hall.out)).symm, hb⟩
theorem plist_ne {xs ys : List (Int × Int)} {k : Nat} (h : xs.getD k (0, 0) ≠ ys.getD k (0, 0)) : decide (xs = ys) = false := by
 simp only [decide_eq_false_iff_not]
 intro e
 exact h (by rw [e])
theorem plist_eq {α : Type} {d : α} {xs ys : List α} (hl : xs.length = ys.length) (h : ∀ j, j < xs.length → xs.getD j d = ys.getD j d) : xs = ys := by
 apply List.ext_getElem hl
 intro j h1 h2
 have := h j h1
 simpa [List.getD_eq_getElem?_getD, List.getElem?_eq_getElem h1, List.getElem?_eq_getElem h2] using this
theorem eqg_lag : Tryz.prog.eqGuardType Tryz.prog.depth 61 = false := by kernel_rfl
theorem sih_lag : Tryz.prog.stoodInHeld 61 = false := by kernel_rfl
theorem und_lag : Tryz.prog.underlying 61 = some (.struct (Tryz.prog.fieldsOf 61)) := by kernel_rfl
theorem eq_lag (x0 x1 y0 y1 : Int) (w : World) : (Op.equalIn 10000 61 (.agg #[.int .i64 x0, .int .i64 x1]) (.agg #[.int .i64 y0, .int .i64 y1])).run Tryz.prog w = .ok (x0 == y0 && x1 == y1) w := by
 have e3 := Tryz.underlying3
 rw [run_equalIn_agg _ _ _ _ _ und_lag sih_lag]
 by_cases h0 : x0 = y0 <;> by_cases h1 : x1 = y1 <;> simp [go_sem, Tryz.underlying61, h0, h1]
theorem pair_ne {a b : Int × Int} (h : (!a.1 == b.1) = true ∨ (!a.2 == b.2) = true) : a ≠ b := by
 intro e; subst e; simp at h
theorem pair_eq {a b : Int × Int} (h : (!a.1 == b.1) = false ∧ (!a.2 == b.2) = false) : a = b := by
 simp at h; exact Prod.ext h.1 h.2
set_option maxRecDepth 20000 in
theorem same16_any (A B : Option Addr) (c d : Nat) (xs ys : List (Int × Int)) (w : World) (hx : RL w A xs) (hy : RL w B ys) (hl : xs.length ≤ 140737488355328) (hl2 : ys.length ≤ 140737488355328) :
 Calls Tryz.prog 10 #[.slice A xs.length c, .slice B ys.length d] w fun e w' => e = .returned (.bool (decide (xs = ys))) ∧ ∃ n, w' = w.drewN n := by
 by_cases hlen : xs.length = ys.length
 ·have h2 : ((xs.length : Int) != ys.length) = false := by simp; omega
  have hle : xs.length ≤ ys.length := by omega
  have HL := Lib.hid hlen
  clear hlen
  go_enter Tryz.func10, Tryz.ntmps10
  go_wp2
  go_loopg [5] xs.length (fun gk i wr => ∃ k n : Nat, k + gk = xs.length ∧ i = .int .i64 k ∧ wr = w.drewN n ∧ Hid (∀ j, j < k → xs.getD j (0, 0) = ys.getD j (0, 0)))
  case atStart => exact ⟨0, 0, by omega, rfl, rfl, Lib.hid (by simp)⟩
  case round =>
   obtain ⟨k, n, hk, rfl, rfl, hall⟩ := hrel
   have hk' : k ≤ xs.length := by omega
   have HK := Lib.hid hk
   clear hk
   by_cases hlt : k < xs.length
   ·obtain ⟨b, off, rfl, _, hc, hd⟩ := hx.at_ hlt
    have hlt2 := Nat.lt_of_lt_of_le hlt hle
    obtain ⟨b2, off2, rfl, _, hc2, hd2⟩ := hy.at_ hlt2
    have g1 := eqg_lag
    have g2 := eq_lag
    go_wp2
    go_quiet (fail)
    go_wp2
    ·have hv : (!xs[k].1 == ys[k].1) = true ∨ (!xs[k].2 == ys[k].2) = true := by assumption
     go_ret
     exact ⟨ret_bool (plist_ne (k := k) (by rw [getD_lt _ _ hlt, getD_lt _ _ hlt2]; exact pair_ne hv)).symm, n + nq, by first | rfl | rw [World.drewN_drewN]⟩
    ·have hv : (!xs[k].1 == ys[k].1) = false ∧ (!xs[k].2 == ys[k].2) = false := by assumption
     go_roundg (gk - 1)
     case rel => exact ⟨k + 1, _, by have := HK.out; omega, by go_num, rfl, Lib.hid (all_lt_succ hall.out (by rw [getD_lt _ _ hlt, getD_lt _ _ hlt2]; exact pair_eq hv))⟩
     case measure => have := HK.out; omega
   ·go_wp2
    go_ret
    refine ⟨ret_bool ?_, _, rfl⟩
    symm
    rw [decide_eq_true_eq]
    exact plist_eq HL.out (fun j hj => hall.out j (by omega))
 ·have h2 : ((xs.length : Int) != ys.length) = true := by simp; omega
  go_enter Tryz.func10, Tryz.ntmps10
  go_wp2
  go_ret
  exact ⟨ret_bool (by symm; simp; intro h; exact hlen (by rw [h])), 0, rfl⟩
end Lagc
end Go.Proofs.YtelkokcnedbmeaaGreat
namespace Go.Proofs.YtelkokcnedbmeaaGreat
open Runs Lagc
set_option maxRecDepth 20000
set_option linter.unusedVariables false
set_option linter.unusedSimpArgs false
theorem addC_comm (a b : Int × Int) : addC a b = addC b a := by unfold addC; rw [Int.add_comm]
theorem addL_comm {a b : List (Int × Int)} (h : a.length = b.length) : addL a b = addL b a := by
 unfold addL; rw [h]; exact fullL_congr (fun i _ => addC_comm _ _)
theorem rngB_comm {a b : List (Int × Int)} (h : a.length = b.length) : rngB a b = rngB b a := by unfold rngB; rw [addL_comm h]
theorem mrg_comm {a b : Acc} (hs : a.s.length = b.s.length) (hn : a.n.length = b.n.length) : mrg a b = mrg b a := by
 unfold mrg
 rw [uni_comm a.g b.g, rngB_comm hs, rngB_comm hn, addL_comm hs, addL_comm hn]
theorem mergeS_fine {a b : Acc} (ha : Fine a) (hb : Fine b) (h : a.s.length = b.s.length) : mergeS a b = mrg a b := by
 unfold mergeS
 rw [if_neg (by rw [acc_fine.2 ha]; simp), if_neg (by rw [acc_fine.2 hb]; simp), if_neg (by simpa using h)]
theorem mergeS_len {a b : Acc} (ha : Fine a) (hb : Fine b) (h : a.s.length ≠ b.s.length) : mergeS a b = (.none, 2) := by
 unfold mergeS
 rw [if_neg (by rw [acc_fine.2 ha]; simp), if_neg (by rw [acc_fine.2 hb]; simp), if_pos h]
theorem mergeS_comm {a b : Acc} (ha : Fine a) (hb : Fine b) : mergeS a b = mergeS b a := by
 by_cases h : a.s.length = b.s.length
 ·rw [mergeS_fine ha hb h, mergeS_fine hb ha h.symm]
  exact mrg_comm h (by rw [ha.ln, hb.ln, h])
 ·rw [mergeS_len ha hb h, mergeS_len hb ha (fun e => h e.symm)]
theorem fullL_mem {α : Type} {f : Nat → α} {n : Nat} {x : α} (h : x ∈ fullL f n) : ∃ k, k < n ∧ f k = x := by
 simpa [fullL] using h
theorem getD_mem {α : Type} {l : List α} {d : α} {k : Nat} (h : k < l.length) : l.getD k d ∈ l := by rw [getD_lt _ _ h]; exact List.getElem_mem _
theorem addL_len (a b : List (Int × Int)) : (addL a b).length = a.length := fullL_len _ _
theorem addL_getD {a b : List (Int × Int)} {k : Nat} (hk : k < a.length) : (addL a b).getD k (0, 0) = addC (a.getD k (0, 0)) (b.getD k (0, 0)) := fullL_getD _ _ _ _ hk
theorem val_addL {a b : List (Int × Int)} {k : Nat} (hk : k < a.length) : val ((addL a b).getD k (0, 0)) = val (a.getD k (0, 0)) + val (b.getD k (0, 0)) := by
 rw [addL_getD hk, addC, val_cnt]
theorem mrg_ok {a b : Acc} (h : (mrg a b).2 = 0) : (uni a.g b.g).2 = true ∧ rngB a.s b.s = true ∧ rngB a.n b.n = true ∧ (uni a.g b.g).1.length ≤ 64 ∧ mrg a b = (⟨addL a.s b.s, addL a.n b.n, (uni a.g b.g).1⟩, 0) := by
 unfold mrg at h ⊢
 by_cases h1 : (uni a.g b.g).2 = false
 ·rw [if_pos h1] at h; cases h
 rw [if_neg h1] at h ⊢
 by_cases h2 : rngB a.s b.s = false ∨ rngB a.n b.n = false
 ·rw [if_pos h2] at h; cases h
 rw [if_neg h2] at h ⊢
 by_cases h3 : 64 < (uni a.g b.g).1.length
 ·rw [if_pos h3] at h; cases h
 rw [if_neg h3] at h ⊢
 refine ⟨by simpa using h1, ?_, ?_, by omega, rfl⟩
 ·cases e : rngB a.s b.s
  ·exact absurd (.inl e) h2
  ·rfl
 ·cases e : rngB a.n b.n
  ·exact absurd (.inr e) h2
  ·rfl
theorem cnt_fit (v : Int) : 0 ≤ (cnt v).2 ∧ (cnt v).2 < 1000000000 := by unfold cnt; simp only []; omega
theorem mrg_fine {a b : Acc} (ha : Fine a) (hb : Fine b) (hl : a.s.length = b.s.length) (h : (mrg a b).2 = 0) : Fine (mrg a b).1 := by
 obtain ⟨h1, h2, h3, h4, h5⟩ := mrg_ok h
 rw [h5]
 have hg := uni_good h1
 have en : a.n.length = b.n.length := by rw [ha.ln, hb.ln, hl]
 refine ⟨by rw [addL_len]; exact ha.ls, by rw [addL_len, addL_len]; exact ha.ln, h4, by rw [addL_len]; exact ha.odd, hg.rn, ?_, ?_⟩
 ·intro x hx
  obtain ⟨k, hk, rfl⟩ := fullL_mem hx
  have e1 := rngB_at h2 hk
  have e2 := cnt_fit (val (a.s.getD k (0, 0)) + val (b.s.getD k (0, 0)))
  unfold inR at e1
  rw [decide_eq_true_eq] at e1
  exact ⟨e2.1, e2.2, e1.1, e1.2⟩
 ·intro x hx
  obtain ⟨k, hk, rfl⟩ := fullL_mem hx
  have e1 := rngB_at h3 hk
  have e2 := cnt_fit (val (a.n.getD k (0, 0)) + val (b.n.getD k (0, 0)))
  unfold inR at e1
  rw [decide_eq_true_eq] at e1
  refine ⟨e2.1, e2.2, ?_, e1.2⟩
  have f1 := ha.n _ (getD_mem (d := (0, 0)) hk)
  have f2 := hb.n _ (getD_mem (d := (0, 0)) (show k < b.n.length by omega))
  show 0 ≤ (val (a.n.getD k (0, 0)) + val (b.n.getD k (0, 0))) / 1000000000
  unfold val
  omega
noncomputable def addAcc (a : Acc) (l : List (Int × Int)) (at_ many : Int) : Acc × Int :=
 if accErr a ≠ 0 then (.none, accErr a) else if lagErr l ≠ 0 then (.none, lagErr l) else if addArg a l at_ many = true then (.none, 2) else mrg a (lagAcc l at_ many)
theorem lagErr_zero {l : List (Int × Int)} (h : lagErr l = 0) : l.length ≤ 511 ∧ l.length % 2 = 1 ∧ ∀ x ∈ l, okLag x = true := by
 unfold lagErr at h
 by_cases h1 : 511 < l.length
 ·rw [if_pos h1] at h; cases h
 rw [if_neg h1] at h
 by_cases h2 : l.length % 2 = 0
 ·rw [if_pos h2] at h; cases h
 rw [if_neg h2] at h
 by_cases h3 : l.all okLag = true
 ·exact ⟨by omega, by omega, by simpa using h3⟩
 ·rw [if_neg h3] at h; cases h
theorem okLag_bd {x : Int × Int} (h : okLag x = true) : 0 ≤ x.2 ∧ x.2 ≤ 256 ∧ -2304 ≤ x.1 ∧ x.1 ≤ 2304 := by
 unfold okLag at h
 rw [decide_eq_true_eq] at h
 omega
theorem addArg_no {a : Acc} {l : List (Int × Int)} {at_ many : Int} (h : addArg a l at_ many = false) : l.length = a.s.length ∧ 1 ≤ many ∧ many ≤ 256 ∧ 0 ≤ at_ ∧ at_ + many ≤ 1000000000 := by
 unfold addArg at h
 rw [decide_eq_false_iff_not] at h
 omega
theorem lagAcc_fine {l : List (Int × Int)} {at_ many : Int} (hl : lagErr l = 0) (h1 : 1 ≤ many) (h2 : 0 ≤ at_) (h3 : at_ + many ≤ 1000000000) : Fine (lagAcc l at_ many) := by
 obtain ⟨e1, e2, e3⟩ := lagErr_zero hl
 have hs : (lagAcc l at_ many).s.length = l.length := fullL_len _ _
 have hn : (lagAcc l at_ many).n.length = l.length := fullL_len _ _
 refine ⟨by omega, by omega, by simp [lagAcc], by omega, Rn_one ⟨h2, h1, h3⟩, ?_, ?_⟩
 ·intro x hx
  obtain ⟨k, hk, rfl⟩ := fullL_mem hx
  have := okLag_bd (e3 _ (getD_mem (d := (0, 0)) hk))
  unfold cnt
  simp only []
  omega
 ·intro x hx
  obtain ⟨k, hk, rfl⟩ := fullL_mem hx
  have := okLag_bd (e3 _ (getD_mem (d := (0, 0)) hk))
  unfold cnt
  simp only []
  omega
theorem addAcc_fine {a : Acc} {l : List (Int × Int)} {at_ many : Int} (ha : Fine a) (hl : lagErr l = 0) (h : addArg a l at_ many = false) : addAcc a l at_ many = mergeS a (lagAcc l at_ many) ∧ Fine (lagAcc l at_ many) := by
 obtain ⟨h1, h2, h3, h4, h5⟩ := addArg_no h
 have hf := lagAcc_fine hl h2 h4 h5
 refine ⟨?_, hf⟩
 unfold addAcc
 rw [if_neg (by rw [acc_fine.2 ha]; simp), if_neg (by rw [hl]; simp), h, if_neg (by simp), mergeS_fine ha hf]
 show a.s.length = (fullL _ _).length
 rw [fullL_len, h1]
end Go.Proofs.YtelkokcnedbmeaaGreat
