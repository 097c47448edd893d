/-
  Parts of the proof of WorkerNames: AccA LagChk AccB AccC.
-/
import Derived.Test.YtdekbncpodjgnaaT04
import Derived.Test.YtdekbncpodjgnaaT01
import Derived.Test.YtdekbncpodjgnaaProg
import Derived.Deep.QuietTactic
import Derived.BigQuiet
import Derived.Deep.LoopGhost
import Derived.WalkSmall
namespace Go.Proofs.Ytdekbncpodjgnaa
open Runs
set_option linter.unusedVariables false
set_option linter.unusedSimpArgs false
structure Acc where
 s : List (Int × Int)
 n : List (Int × Int)
 g : List (Int × Int)
def Acc.none : Acc := ⟨[], [], []⟩
def wrongB (least : Int) (c : Int × Int) : Bool := decide (c.2 < 0) || decide (1000000000 ≤ c.2) || decide (c.1 < least) || decide (1000000000 ≤ c.1)
def gOk (l : List (Int × Int)) (j : Nat) : Bool :=
 decide (0 ≤ (l.getD j (0, 0)).1 ∧ 1 ≤ (l.getD j (0, 0)).2 ∧ (l.getD j (0, 0)).1 + (l.getD j (0, 0)).2 ≤ 1000000000 ∧ (j = 0 ∨ (l.getD (j - 1) (0, 0)).1 + (l.getD (j - 1) (0, 0)).2 < (l.getD j (0, 0)).1))
def runB (l : List (Int × Int)) : Bool := (List.range l.length).all (gOk l)
theorem runB_all {l : List (Int × Int)} : runB l = true ↔ ∀ j, j < l.length → gOk l j = true := by simp [runB]
theorem runB_no {l : List (Int × Int)} {j : Nat} (h : j < l.length) (h2 : gOk l j = false) : runB l = false := by
 rw [Bool.eq_false_iff, Ne, runB_all]
 intro h3
 rw [h3 j h] at h2
 cases h2
theorem gOk_bd {l : List (Int × Int)} {j : Nat} (hj : j < l.length) (h : gOk l j = true) : okG l[j] := by
 unfold gOk at h
 rw [getD_lt _ _ hj, decide_eq_true_eq] at h
 exact ⟨h.1, h.2.1, h.2.2.1⟩
theorem runB_iff {l : List (Int × Int)} : runB l = true ↔ Rn l := by
 rw [runB_all]
 constructor
 ·intro h
  have hok : ∀ j (hj : j < l.length), okG l[j] := fun j hj => gOk_bd hj (h j hj)
  refine ⟨fun g hg => ?_, ?_⟩
  ·obtain ⟨j, hj, rfl⟩ := List.getElem_of_mem hg
   exact hok j hj
  ·rw [List.pairwise_iff_getElem]
   have key : ∀ d i (hi : i + d + 1 < l.length), l[i].1 + l[i].2 < l[i + d + 1].1 := by
    intro d
    induction d with
    | zero =>
     intro i hi
     have h1 := h (i + 1) hi
     unfold gOk at h1
     rw [getD_lt _ _ hi, decide_eq_true_eq, Nat.add_sub_cancel, getD_lt _ _ (by omega)] at h1
     rcases h1.2.2.2 with h2 | h2
     ·omega
     ·exact h2
    | succ d ih =>
     intro i hi
     have h1 := ih i (by omega)
     have h2 := hok (i + d + 1) (by omega)
     have hi2 : i + d + 2 < l.length := by omega
     have h3 := h (i + d + 2) hi2
     unfold gOk at h3
     rw [getD_lt _ _ hi2, decide_eq_true_eq, show i + d + 2 - 1 = i + d + 1 by omega, getD_lt _ _ (by omega)] at h3
     unfold okG at h2
     rcases h3.2.2.2 with h4 | h4
     ·omega
     ·show l[i].1 + l[i].2 < l[i + d + 2].1
      omega
   intro i j hi hj hij
   have := key (j - i - 1) i (by omega)
   have e : i + (j - i - 1) + 1 = j := by omega
   simp only [e] at this
   exact this
 ·rintro ⟨h1, h2⟩ j hj
  have h3 := h1 _ (List.getElem_mem hj)
  unfold okG at h3
  unfold gOk
  rw [getD_lt _ _ hj, decide_eq_true_eq]
  refine ⟨h3.1, h3.2.1, h3.2.2, ?_⟩
  by_cases h0 : j = 0
  ·exact .inl h0
  ·refine .inr ?_
   rw [getD_lt _ _ (by omega)]
   exact List.pairwise_iff_getElem.1 h2 (j - 1) j (by omega) hj (by omega)
def accErr (a : Acc) : Int :=
 if 511 < a.s.length ∨ 511 < a.n.length ∨ 64 < a.g.length then 4
 else if a.s.length ≠ a.n.length ∨ a.s.length % 2 = 0 ∨ runB a.g = false then 8
 else if a.s.any (wrongB (-1000000000)) || a.n.any (wrongB 0) then 8 else 0
structure Fine (a : Acc) : Prop where
 ls : a.s.length ≤ 511
 ln : a.n.length = a.s.length
 lg : a.g.length ≤ 64
 odd : a.s.length % 2 = 1
 rn : Rn a.g
 s : ∀ x ∈ a.s, 0 ≤ x.2 ∧ x.2 < 1000000000 ∧ -1000000000 ≤ x.1 ∧ x.1 < 1000000000
 n : ∀ x ∈ a.n, 0 ≤ x.2 ∧ x.2 < 1000000000 ∧ 0 ≤ x.1 ∧ x.1 < 1000000000
theorem wrongB_no {least : Int} {c : Int × Int} : wrongB least c = false ↔ 0 ≤ c.2 ∧ c.2 < 1000000000 ∧ least ≤ c.1 ∧ c.1 < 1000000000 := by
 simp [wrongB]
 omega
theorem anyW_no {least : Int} {l : List (Int × Int)} : l.any (wrongB least) = false ↔ ∀ x ∈ l, 0 ≤ x.2 ∧ x.2 < 1000000000 ∧ least ≤ x.1 ∧ x.1 < 1000000000 := by
 rw [Bool.eq_false_iff, Ne, List.any_eq_true]
 constructor
 ·intro h x hx
  rw [← wrongB_no]
  cases h2 : wrongB least x
  ·rfl
  ·exact absurd ⟨x, hx, h2⟩ h
 ·rintro h ⟨x, hx, h2⟩
  rw [wrongB_no.2 (h x hx)] at h2
  cases h2
theorem acc_fine {a : Acc} : accErr a = 0 ↔ Fine a := by
 unfold accErr
 constructor
 ·intro h
  by_cases h1 : 511 < a.s.length ∨ 511 < a.n.length ∨ 64 < a.g.length
  ·rw [if_pos h1] at h; omega
  rw [if_neg h1] at h
  by_cases h2 : a.s.length ≠ a.n.length ∨ a.s.length % 2 = 0 ∨ runB a.g = false
  ·rw [if_pos h2] at h; omega
  rw [if_neg h2] at h
  by_cases h3 : (a.s.any (wrongB (-1000000000)) || a.n.any (wrongB 0)) = true
  ·rw [if_pos h3] at h; omega
  have h4 : a.s.any (wrongB (-1000000000)) = false ∧ a.n.any (wrongB 0) = false := by simpa using h3
  have h5 : runB a.g = true := by
   cases e : runB a.g
   ·exact absurd (.inr (.inr e)) h2
   ·rfl
  exact ⟨by omega, by omega, by omega, by omega, runB_iff.1 h5, anyW_no.1 h4.1, anyW_no.1 h4.2⟩
 ·intro h
  have := h.ls; have := h.ln; have := h.lg; have := h.odd
  have h5 := runB_iff.2 h.rn
  have h4 := anyW_no.2 h.s
  have h6 := anyW_no.2 h.n
  rw [if_neg (by omega), if_neg (by rw [h5]; simp; omega), h4, h6]
  rfl
def val (c : Int × Int) : Int := c.1 * 1000000000 + c.2
def cnt (v : Int) : Int × Int := (v / 1000000000, v % 1000000000)
theorem val_cnt (v : Int) : val (cnt v) = v := by unfold val cnt; simp only []; omega
theorem cnt_val {c : Int × Int} (h1 : 0 ≤ c.2) (h2 : c.2 < 1000000000) : cnt (val c) = c := by
 unfold val cnt
 exact Prod.ext (by simp only []; omega) (by simp only []; omega)
def addC (a b : Int × Int) : Int × Int := cnt (val a + val b)
def inR (c : Int × Int) : Bool := decide (-1000000000 ≤ c.1 ∧ c.1 < 1000000000)
def addF (a b : List (Int × Int)) (k : Nat) : Int × Int := addC (a.getD k (0, 0)) (b.getD k (0, 0))
def addL (a b : List (Int × Int)) : List (Int × Int) := fullL (addF a b) a.length
def rngB (a b : List (Int × Int)) : Bool := (addL a b).all inR
theorem rngB_no {a b : List (Int × Int)} {k : Nat} (hk : k < a.length) (h : inR (addF a b k) = false) : rngB a b = false := by
 rw [Bool.eq_false_iff, Ne, rngB, List.all_eq_true]
 intro h2
 have hm : (addL a b)[k]'(by rw [addL, fullL_len]; exact hk) ∈ addL a b := List.getElem_mem _
 have := h2 _ hm
 unfold addL at this
 rw [fullL_get] at this
 rw [this] at h
 cases h
theorem rngB_yes {a b : List (Int × Int)} (h : ∀ k, k < a.length → inR (addF a b k) = true) : rngB a b = true := by
 rw [rngB, List.all_eq_true]
 intro x hx
 obtain ⟨k, hk, rfl⟩ := List.getElem_of_mem hx
 unfold addL at hk ⊢
 rw [fullL_get]
 exact h k (by simpa [fullL] using hk)
theorem rngB_at {a b : List (Int × Int)} (h : rngB a b = true) {k : Nat} (hk : k < a.length) : inR (addF a b k) = true := by
 cases e : inR (addF a b k)
 ·rw [rngB_no hk e] at h; cases h
 ·rfl
noncomputable def mrg (a b : Acc) : Acc × Int :=
 if (uni a.g b.g).2 = false then (.none, 14)
 else if rngB a.s b.s = false ∨ rngB a.n b.n = false then (.none, 16)
 else if 64 < (uni a.g b.g).1.length then (.none, 4)
 else (⟨addL a.s b.s, addL a.n b.n, (uni a.g b.g).1⟩, 0)
noncomputable def mergeS (a b : Acc) : Acc × Int :=
 if accErr a ≠ 0 then (.none, accErr a) else if accErr b ≠ 0 then (.none, accErr b) else if a.s.length ≠ b.s.length then (.none, 2) else mrg a b
def lagAcc (l : List (Int × Int)) (at_ many : Int) : Acc := ⟨fullL (fun k => cnt (l.getD k (0, 0)).1) l.length, fullL (fun k => cnt (l.getD k (0, 0)).2) l.length, [(at_, many)]⟩
def addArg (a : Acc) (l : List (Int × Int)) (at_ many : Int) : Bool := decide (l.length ≠ a.s.length ∨ many < 1 ∨ 256 < many ∨ at_ < 0 ∨ 1000000000 - many < at_)
def newS (m : Int) : Acc × Int := if m < 0 ∨ 255 < m then (.none, 2) else (⟨List.replicate (2 * m.toNat + 1) (0, 0), List.replicate (2 * m.toNat + 1) (0, 0), []⟩, 0)
def valS (a : Acc) (lag : Int) : (Int × Int) × Int :=
 if accErr a ≠ 0 then ((0, 0), accErr a) else if lag < -((a.s.length / 2 : Nat) : Int) ∨ ((a.s.length / 2 : Nat) : Int) < lag then ((0, 0), 2)
 else ((val (a.s.getD (lag + (a.s.length / 2 : Nat)).toNat (0, 0)), val (a.n.getD (lag + (a.s.length / 2 : Nat)).toNat (0, 0))), 0)
end Go.Proofs.Ytdekbncpodjgnaa
namespace Go.Proofs.Ytdekbncpodjgnaa
open Go.RowKit
set_option linter.unusedVariables false
namespace Lagc
theorem all_lt_succ {p : Nat → Prop} {k : Nat} (h : ∀ j, j < k → p j) (hk : p k) : ∀ j, j < k + 1 → p j := by
 intro j hj
 rcases Nat.lt_or_ge j k with h1 | h1
 ·exact h j h1
 ·obtain rfl : j = k := by omega
  exact hk
def okLag (a : Int × Int) : Bool := decide (0 ≤ a.2 ∧ a.2 ≤ 256 ∧ -9 * a.2 ≤ a.1 ∧ a.1 ≤ 9 * a.2 ∧ (a.1 - a.2) % 2 = 0)
def lagErr (l : List (Int × Int)) : Int := if 511 < l.length then 4 else if l.length % 2 = 0 then 8 else if l.all okLag then 0 else 8
theorem lagErr_many {l : List (Int × Int)} (h : 511 < l.length) : lagErr l = 4 := by unfold lagErr; rw [if_pos h]
theorem lagErr_even {l : List (Int × Int)} (h : l.length ≤ 511) (h2 : l.length % 2 = 0) : lagErr l = 8 := by unfold lagErr; rw [if_neg (by omega), if_pos h2]
theorem lagErr_bad {l : List (Int × Int)} {k : Nat} (h : l.length ≤ 511) (hk : k < l.length) (h2 : okLag l[k] = false) : lagErr l = 8 := by
 unfold lagErr
 rw [if_neg (by omega)]
 split
 ·rfl
 ·rw [if_neg]
  simp only [List.all_eq_true]
  intro h3
  have := h3 _ (List.getElem_mem hk)
  simp [h2] at this
theorem lagErr_ok {l : List (Int × Int)} (h : l.length ≤ 511) (h1 : ¬ l.length % 2 = 0) (h2 : ∀ x ∈ l, okLag x = true) : lagErr l = 0 := by
 unfold lagErr
 rw [if_neg (by omega), if_neg h1, if_pos (by simpa using h2)]
theorem takeAll_snoc {α : Type} {p : α → Prop} {xs : List α} {k : Nat} (hk : k < xs.length) (h : ∀ x ∈ xs.take k, p x) (h2 : p xs[k]) : ∀ x ∈ xs.take (k + 1), p x := by
 intro x hx
 rw [List.take_succ_eq_append_getElem hk] at hx
 simp only [List.mem_append, List.mem_singleton] at hx
 rcases hx with hx | rfl
 ·exact h x hx
 ·exact h2
theorem takeAll_end {α : Type} {p : α → Prop} {xs : List α} {k : Nat} (hk : xs.length ≤ k) (h : ∀ x ∈ xs.take k, p x) : ∀ x ∈ xs, p x := by
 rwa [List.take_of_length_le hk] at h
theorem tmod2_iff (x : Int) : x.tmod 2 = 0 ↔ x % 2 = 0 :=
 ⟨fun h => Int.emod_eq_zero_of_dvd (Int.dvd_of_tmod_eq_zero h), fun h => Int.tmod_eq_zero_of_dvd (Int.dvd_of_emod_eq_zero h)⟩
theorem okLag_no {a : Int × Int} (h : a.2 < 0 ∨ 256 < a.2 ∨ a.1 < -9 * a.2 ∨ 9 * a.2 < a.1) : okLag a = false := by
 simp only [okLag, decide_eq_false_iff_not]; omega
theorem okLag_odd {a : Int × Int} (h : ((a.1 - a.2).tmod 2 != 0) = true) : okLag a = false := by
 have h2 : ¬ (a.1 - a.2) % 2 = 0 := by rw [← tmod2_iff]; simpa using h
 simp only [okLag, decide_eq_false_iff_not]; omega
theorem okLag_yes {a : Int × Int} (h1 : 0 ≤ a.2) (h2 : a.2 ≤ 256) (h3 : -9 * a.2 ≤ a.1) (h4 : a.1 ≤ 9 * a.2) (h : ((a.1 - a.2).tmod 2 != 0) = false) : okLag a = true := by
 have h5 : (a.1 - a.2) % 2 = 0 := by rw [← tmod2_iff]; simpa using h
 simp only [okLag, decide_eq_true_eq]; omega
theorem lagCheck_any (A : Option Addr) (c : Nat) (l : List (Int × Int)) (w : World) (hx : RL w A l) (hl : l.length ≤ 140737488355328) :
 Calls Try.prog 73 #[.slice A l.length c] w fun e w' => e = .returned (.int .i64 (lagErr l)) ∧ Below w.heap.size w w' := by
 by_cases hp : l.length % 2 = 0
 ·have h2 : ((l.length : Int) % 2 == 0) = true := by simp; omega
  have HP := Lib.hid hp
  clear hp
  go_enter Try.func73, Try.ntmps73
  go_wp2
  ·go_ret
   exact ⟨ret_int (lagErr_many (by omega)).symm, Below.refl _ _⟩
  ·go_ret
   exact ⟨ret_int (lagErr_even (by omega) HP.out).symm, Below.refl _ _⟩
 have h2 : ((l.length : Int) % 2 == 0) = false := by simp; omega
 go_enter Try.func73, Try.ntmps73
 go_wp2
 ·go_ret
  exact ⟨ret_int (lagErr_many (by omega)).symm, Below.refl _ _⟩
 go_loopg [4, 14] l.length (fun gk _ i wr => ∃ k : Nat, k + gk = l.length ∧ i = .int .i64 k ∧ Below w.heap.size w wr ∧ Hid (∀ x ∈ l.take k, okLag x = true))
 case atStart => exact ⟨0, by omega, rfl, Below.refl _ _, Lib.hid (by simp)⟩
 case round =>
  obtain ⟨k, hk, rfl, hb, hall⟩ := hrel
  have hk' : k ≤ l.length := by omega
  have HK := Lib.hid hk
  clear hk
  by_cases hlt : k < l.length
  ·obtain ⟨b, off, rfl, _, hc1, hc2⟩ := (hx.keep hb).at_ hlt
   go_wp2
   all_goals first
    |(go_ret; exact ⟨ret_int (lagErr_bad (by omega) hlt (by first | exact okLag_odd (by assumption) | exact okLag_no (by omega))).symm, hb.alloc hb.size _⟩)
    |(go_roundg (gk - 1)
      case rel => exact ⟨k + 1, by have := HK.out; omega, by go_num, hb.alloc hb.size _, Lib.hid (takeAll_snoc hlt hall.out (okLag_yes (by omega) (by omega) (by omega) (by omega) (by assumption)))⟩
      case measure => have := HK.out; omega)
  ·go_wp2
   go_ret
   exact ⟨ret_int (lagErr_ok (by omega) hp (takeAll_end (by omega) hall.out)).symm, hb⟩
theorem plist_ne {xs ys : List (Int × Int)} {k : Nat} (h : xs.getD k (0, 0) ≠ ys.getD k (0, 0)) : decide (xs = ys) = false := by
 simp only [decide_eq_false_iff_not]
 intro e
 exact h (by rw [e])
theorem plist_eq {α : Type} {d : α} {xs ys : List α} (hl : xs.length = ys.length) (h : ∀ j, j < xs.length → xs.getD j d = ys.getD j d) : xs = ys := by
 apply List.ext_getElem hl
 intro j h1 h2
 have := h j h1
 simpa [List.getD_eq_getElem?_getD, List.getElem?_eq_getElem h1, List.getElem?_eq_getElem h2] using this
theorem eqg_lag : Try.prog.eqGuardType Try.prog.depth 75 = false := by kernel_rfl
theorem sih_lag : Try.prog.stoodInHeld 75 = false := by kernel_rfl
theorem und_lag : Try.prog.underlying 75 = some (.struct (Try.prog.fieldsOf 75)) := by kernel_rfl
theorem eq_lag (x0 x1 y0 y1 : Int) (w : World) : (Op.equalIn 10000 75 (.agg #[.int .i64 x0, .int .i64 x1]) (.agg #[.int .i64 y0, .int .i64 y1])).run Try.prog w = .ok (x0 == y0 && x1 == y1) w := by
 have e3 := Try.underlying3
 rw [run_equalIn_agg _ _ _ _ _ und_lag sih_lag]
 by_cases h0 : x0 = y0 <;> by_cases h1 : x1 = y1 <;> simp [go_sem, Try.underlying75, h0, h1]
theorem pair_ne {a b : Int × Int} (h : (!a.1 == b.1) = true ∨ (!a.2 == b.2) = true) : a ≠ b := by
 intro e; subst e; simp at h
theorem pair_eq {a b : Int × Int} (h : (!a.1 == b.1) = false ∧ (!a.2 == b.2) = false) : a = b := by
 simp at h; exact Prod.ext h.1 h.2
set_option maxRecDepth 20000 in
theorem same16_any (A B : Option Addr) (c d : Nat) (xs ys : List (Int × Int)) (w : World) (hx : RL w A xs) (hy : RL w B ys) (hl : xs.length ≤ 140737488355328) (hl2 : ys.length ≤ 140737488355328) :
 Calls Try.prog 18 #[.slice A xs.length c, .slice B ys.length d] w fun e w' => e = .returned (.bool (decide (xs = ys))) ∧ ∃ n, w' = w.drewN n := by
 by_cases hlen : xs.length = ys.length
 ·have h2 : ((xs.length : Int) != ys.length) = false := by simp; omega
  have hle : xs.length ≤ ys.length := by omega
  have HL := Lib.hid hlen
  clear hlen
  go_enter Try.func18, Try.ntmps18
  go_wp2
  go_loopg [5] xs.length (fun gk i wr => ∃ k n : Nat, k + gk = xs.length ∧ i = .int .i64 k ∧ wr = w.drewN n ∧ Hid (∀ j, j < k → xs.getD j (0, 0) = ys.getD j (0, 0)))
  case atStart => exact ⟨0, 0, by omega, rfl, rfl, Lib.hid (by simp)⟩
  case round =>
   obtain ⟨k, n, hk, rfl, rfl, hall⟩ := hrel
   have hk' : k ≤ xs.length := by omega
   have HK := Lib.hid hk
   clear hk
   by_cases hlt : k < xs.length
   ·obtain ⟨b, off, rfl, _, hc, hd⟩ := hx.at_ hlt
    have hlt2 := Nat.lt_of_lt_of_le hlt hle
    obtain ⟨b2, off2, rfl, _, hc2, hd2⟩ := hy.at_ hlt2
    have g1 := eqg_lag
    have g2 := eq_lag
    go_wp2
    go_quiet (fail)
    go_wp2
    ·have hv : (!xs[k].1 == ys[k].1) = true ∨ (!xs[k].2 == ys[k].2) = true := by assumption
     go_ret
     exact ⟨ret_bool (plist_ne (k := k) (by rw [getD_lt _ _ hlt, getD_lt _ _ hlt2]; exact pair_ne hv)).symm, n + nq, by first | rfl | rw [World.drewN_drewN]⟩
    ·have hv : (!xs[k].1 == ys[k].1) = false ∧ (!xs[k].2 == ys[k].2) = false := by assumption
     go_roundg (gk - 1)
     case rel => exact ⟨k + 1, _, by have := HK.out; omega, by go_num, rfl, Lib.hid (all_lt_succ hall.out (by rw [getD_lt _ _ hlt, getD_lt _ _ hlt2]; exact pair_eq hv))⟩
     case measure => have := HK.out; omega
   ·go_wp2
    go_ret
    refine ⟨ret_bool ?_, _, rfl⟩
    symm
    rw [decide_eq_true_eq]
    exact plist_eq HL.out (fun j hj => hall.out j (by omega))
 ·have h2 : ((xs.length : Int) != ys.length) = true := by simp; omega
  go_enter Try.func18, Try.ntmps18
  go_wp2
  go_ret
  exact ⟨ret_bool (by symm; simp; intro h; exact hlen (by rw [h])), 0, rfl⟩
end Lagc
end Go.Proofs.Ytdekbncpodjgnaa
namespace Go.Proofs.Ytdekbncpodjgnaa
open Go.RowKit Runs Lagc
set_option linter.unusedVariables false
set_option linter.unusedSimpArgs false
structure RA (w : World) (S N G : Option Addr) (a : Acc) : Prop where
 s : RL w S a.s
 n : RL w N a.n
 g : RL w G a.g
theorem RA.keep {w w' : World} {S N G : Option Addr} {a : Acc} (h : RA w S N G a) (hb : Below w.heap.size w w') : RA w' S N G a := ⟨h.s.keep hb, h.n.keep hb, h.g.keep hb⟩
theorem wrong_dec {b : Bool} {least : Int} {c : Int × Int} (h : (b = false ∧ 0 ≤ c.2 ∧ c.2 < 1000000000 ∧ least ≤ c.1 ∧ c.1 < 1000000000) ∨ (b = true ∧ ¬ (0 ≤ c.2 ∧ c.2 < 1000000000 ∧ least ≤ c.1 ∧ c.1 < 1000000000))) : b = wrongB least c := by
 rcases h with ⟨rfl, h⟩ | ⟨rfl, h⟩
 ·exact (wrongB_no.2 h).symm
 ·cases e : wrongB least c
  ·exact absurd (wrongB_no.1 e) h
  ·rfl
theorem wrong_any (c : Int × Int) (least : Int) (g : Nat) (t : TypeId) (w : World) (hg : Blk w g t #[.int .i64 least]) :
 Calls Try.prog 80 #[.agg #[.int .i64 c.1, .int .i64 c.2], .pointer (some ⟨g, 0, none⟩)] w fun e w' => e = .returned (.bool (wrongB least c)) ∧ Below w.heap.size w w' := by
 have q0 : World.cell? w ⟨g, 0, none⟩ = some (.int .i64 least) := hg.cell 0
 have hlt := hg.lt
 go_enter Try.func80, Try.ntmps80
 go_wp2
 all_goals
  go_ret
  exact ⟨ret_bool (wrong_dec (by first | exact .inl ⟨rfl, by omega⟩ | exact .inr ⟨rfl, by omega⟩ | (simp; omega))), balloc (Below.refl _ _) _⟩
def SomeIdx (b : Bool) (w : World) (e : Ending) (w' : World) : Prop := ∃ r : Int, e = .returned (.int .i64 r) ∧ decide (0 ≤ r) = b ∧ Below w.heap.size w w'
theorem any_no {α : Type} {p : α → Bool} {l : List α} (h : ∀ x ∈ l, p x = false) : l.any p = false := by
 rw [Bool.eq_false_iff, Ne, List.any_eq_true]
 rintro ⟨x, hx, h2⟩
 rw [h x hx] at h2
 cases h2
theorem any_yes {α : Type} {p : α → Bool} {l : List α} {k : Nat} (hk : k < l.length) (h : p l[k] = true) : l.any p = true := by
 rw [List.any_eq_true]
 exact ⟨_, List.getElem_mem hk, h⟩
theorem SomeIdx.mk {b : Bool} {w w' : World} {r : Int} (h : decide (0 ≤ r) = b) (hb : Below w.heap.size w w') : SomeIdx b w (.returned (.int .i64 r)) w' := ⟨r, rfl, h, hb⟩
theorem index_any (A : Option Addr) (c : Nat) (l : List (Int × Int)) (least : Int) (g : Nat) (t : TypeId) (w : World) (hx : RL w A l) (hl : l.length ≤ 140737488355328) (hg : Blk w g t #[.int .i64 least]) :
 Calls Try.prog 88 #[.slice A l.length c, .func (.func 80) #[] #[.pointer (some ⟨g, 0, none⟩)]] w (SomeIdx (l.any (wrongB least)) w) := by
 go_enter Try.func88, Try.ntmps88
 go_wp2
 go_loopg [5, 8] l.length (fun gk _ i wr => ∃ k : Nat, k + gk = l.length ∧ i = .int .i64 k ∧ Below w.heap.size w wr ∧ Hid (∀ x ∈ l.take k, wrongB least x = false))
 case atStart => exact ⟨0, by omega, rfl, Below.refl _ _, Lib.hid (by simp)⟩
 case round =>
  obtain ⟨k, hk, rfl, hb, hall⟩ := hrel
  have hk' : k ≤ l.length := by omega
  have HK := Lib.hid hk
  clear hk
  by_cases hlt : k < l.length
  ·obtain ⟨b, off, rfl, _, hc1, hc2⟩ := (hx.keep hb).at_ hlt
   rw [getD_lt _ _ hlt] at hc1 hc2
   by_cases hw : wrongB least l[k] = true
   ·have HW := fun w hg => wrong_any l[k] least g t w hg
    rw [hw] at HW
    have HY := Lib.hid (any_yes hlt hw)
    clear hw
    go_wp2_with fail
    refine (HW _ (hg.keep hb)).mono ?_
    rintro _ w1 ⟨rfl, hb1⟩
    go_wp2
    go_ret
    exact SomeIdx.mk (by rw [HY.out]; simp) (bstep hb hb1)
   ·have hw' : wrongB least l[k] = false := by simpa using hw
    have HW := fun w hg => wrong_any l[k] least g t w hg
    rw [hw'] at HW
    have HN := Lib.hid (takeAll_snoc hlt hall.out hw')
    clear hw hw'
    go_wp2_with fail
    refine (HW _ (hg.keep hb)).mono ?_
    rintro _ w1 ⟨rfl, hb1⟩
    go_wp2
    go_roundg (gk - 1)
    case rel => exact ⟨k + 1, by have := HK.out; omega, by go_num, bstep hb hb1, HN⟩
    case measure => have := HK.out; omega
  ·go_wp2
   go_ret
   exact SomeIdx.mk (by rw [any_no (takeAll_end (by omega) hall.out)]; simp) hb
theorem contains_any (A : Option Addr) (c : Nat) (l : List (Int × Int)) (least : Int) (g : Nat) (t : TypeId) (w : World) (hx : RL w A l) (hl : l.length ≤ 140737488355328) (hg : Blk w g t #[.int .i64 least]) :
 Calls Try.prog 81 #[.slice A l.length c, .func (.func 80) #[] #[.pointer (some ⟨g, 0, none⟩)]] w fun e w' => e = .returned (.bool (l.any (wrongB least))) ∧ Below w.heap.size w w' := by
 go_enter Try.func81, Try.ntmps81
 go_wp2_with fail
 refine (index_any _ _ l least g t _ hx hl hg).mono ?_
 rintro _ w1 ⟨r, rfl, hr, hb1⟩
 have HR := Lib.hid hr
 clear hr
 go_wp2
 go_ret
 exact ⟨ret_bool (by rw [← HR.out]), hb1⟩
theorem areRuns_any (A : Option Addr) (c : Nat) (l : List (Int × Int)) (w : World) (hx : RL w A l) (hl : l.length ≤ 140737488355328) :
 Calls Try.prog 79 #[.slice A l.length c] w fun e w' => e = .returned (.bool (runB l)) ∧ Below w.heap.size w w' := by
 go_enter Try.func79, Try.ntmps79
 go_wp2
 go_loopg [3, 5, 8] l.length (fun gk z _ i wr => ∃ k : Nat, ∃ E : Int, k + gk = l.length ∧ i = .int .i64 k ∧ z = .int .i64 E ∧ -1 ≤ E ∧ E ≤ 1000000000 ∧ Below w.heap.size w wr ∧ Hid (E = if k = 0 then -1 else (l.getD (k - 1) (0, 0)).1 + (l.getD (k - 1) (0, 0)).2) ∧ Hid (∀ j, j < k → gOk l j = true))
 case atStart => exact ⟨0, -1, by omega, rfl, rfl, by omega, by omega, Below.refl _ _, Lib.hid rfl, Lib.hid (by intro j hj; omega)⟩
 case round =>
  obtain ⟨k, E, hk, rfl, rfl, hE1, hE2, hb, HE, hall⟩ := hrel
  have hk' : k ≤ l.length := by omega
  have HK := Lib.hid hk
  clear hk
  by_cases hlt : k < l.length
  ·obtain ⟨b, off, rfl, _, hc1, hc2⟩ := (hx.keep hb).at_ hlt
   have HG : Hid (gOk l k = decide (0 ≤ (l.getD k (0, 0)).1 ∧ 1 ≤ (l.getD k (0, 0)).2 ∧ (l.getD k (0, 0)).1 + (l.getD k (0, 0)).2 ≤ 1000000000 ∧ (k = 0 ∨ E < (l.getD k (0, 0)).1))) := Lib.hid (by
    unfold gOk
    rw [HE.out]
    by_cases h0 : k = 0
    ·simp [h0]
    ·simp [h0])
   have HE2 : Hid (k = 0 → E = -1) := Lib.hid (by intro h; rw [HE.out, if_pos h])
   have HX : Hid ((l.getD k (0, 0)).1 + (l.getD k (0, 0)).2 = if k + 1 = 0 then -1 else (l.getD (k + 1 - 1) (0, 0)).1 + (l.getD (k + 1 - 1) (0, 0)).2) := Lib.hid (by simp)
   generalize (l.getD k (0, 0)).1 = x at *
   generalize (l.getD k (0, 0)).2 = y at *
   go_wp2
   all_goals first
    |(go_ret; exact ⟨ret_bool (runB_no hlt (by rw [HG.out, decide_eq_false_iff_not]; have := HE2.out; omega)).symm, hb.alloc hb.size _⟩)
    |(go_roundg (gk - 1)
      case rel => exact ⟨k + 1, x + y, by have := HK.out; omega, by go_num, rfl, by omega, by omega, hb.alloc hb.size _, HX, Lib.hid (all_lt_succ hall.out (by rw [HG.out, decide_eq_true_eq]; omega))⟩
      case measure => have := HK.out; omega)
  ·go_wp2
   go_ret
   exact ⟨ret_bool (runB_all.2 (fun j hj => hall.out j (by omega))).symm, hb⟩
end Go.Proofs.Ytdekbncpodjgnaa
namespace Go.Proofs.Ytdekbncpodjgnaa
open Go.RowKit Runs Lagc
set_option linter.unusedVariables false
set_option linter.unusedSimpArgs false
theorem err_many {a : Acc} (h : 511 < a.s.length ∨ 511 < a.n.length ∨ 64 < a.g.length) : accErr a = 4 := by unfold accErr; rw [if_pos h]
theorem err_form {a : Acc} (h : ¬ (511 < a.s.length ∨ 511 < a.n.length ∨ 64 < a.g.length)) (h2 : a.s.length ≠ a.n.length ∨ a.s.length % 2 = 0 ∨ runB a.g = false) : accErr a = 8 := by unfold accErr; rw [if_neg h, if_pos h2]
theorem err_val {a : Acc} (h : ¬ (511 < a.s.length ∨ 511 < a.n.length ∨ 64 < a.g.length)) (h2 : (a.s.any (wrongB (-1000000000)) || a.n.any (wrongB 0)) = true) : accErr a = 8 := by
 unfold accErr; rw [if_neg h]
 split
 ·rfl
 ·first | rw [if_pos h2] | rfl
theorem err_ok {a : Acc} (h : ¬ (511 < a.s.length ∨ 511 < a.n.length ∨ 64 < a.g.length)) (h1 : a.s.length = a.n.length) (h2 : ¬ a.s.length % 2 = 0) (h3 : runB a.g = true) (h4 : a.s.any (wrongB (-1000000000)) = false) (h5 : a.n.any (wrongB 0) = false) : accErr a = 0 := by
 unfold accErr; rw [if_neg h, if_neg (by rw [h3]; simp; omega), h4, h5]; rfl
set_option maxHeartbeats 1000000 in
theorem accCheck_any (S N G : Option Addr) (c1 c2 c3 : Nat) (a : Acc) (w : World) (hx : RA w S N G a) (l1 : a.s.length ≤ 140737488355328) (l2 : a.n.length ≤ 140737488355328) (l3 : a.g.length ≤ 140737488355328) :
 Calls Try.prog 67 #[.agg #[.slice S a.s.length c1, .slice N a.n.length c2, .slice G a.g.length c3]] w fun e w' => e = .returned (.int .i64 (accErr a)) ∧ Below w.heap.size w w' := by
 have hb0 : Below w.heap.size w (w.alloc (.cells #[.slice S a.s.length c1, .slice N a.n.length c2, .slice G a.g.length c3] 39)) := balloc (Below.refl _ _) _
 by_cases hm : 511 < a.s.length ∨ 511 < a.n.length ∨ 64 < a.g.length
 ·have HM := Lib.hid (err_many hm)
  have d1 : 511 < a.s.length ∨ (¬ 511 < a.s.length ∧ 511 < a.n.length) ∨ (¬ 511 < a.s.length ∧ ¬ 511 < a.n.length ∧ 64 < a.g.length) := by omega
  clear hm
  rcases d1 with h1 | ⟨h1, h2⟩ | ⟨h1, h2, h3⟩
  all_goals
   go_enter Try.func67, Try.ntmps67
   go_wp2
   go_ret
   exact ⟨ret_int HM.out.symm, hb0⟩
 have HM := Lib.hid hm
 have m1 : a.s.length ≤ 511 := by omega
 have m2 : a.n.length ≤ 511 := by omega
 have m3 : a.g.length ≤ 64 := by omega
 clear hm
 by_cases hlen : a.s.length = a.n.length
 ·have e1 : ((a.s.length : Int) != a.n.length) = false := by simp; omega
  have HL := Lib.hid hlen
  clear hlen
  by_cases hp : a.s.length % 2 = 0
  ·have e2 : ((a.s.length : Int) % 2 == 0) = true := by simp; omega
   have HF := Lib.hid (err_form HM.out (.inr (.inl hp)))
   clear hp
   go_enter Try.func67, Try.ntmps67
   go_wp2
   go_ret
   exact ⟨ret_int HF.out.symm, hb0⟩
  have e2 : ((a.s.length : Int) % 2 == 0) = false := by simp; omega
  have HP := Lib.hid hp
  clear hp
  have hBl := Blk.new w 39 #[.slice S a.s.length c1, .slice N a.n.length c2, .slice G a.g.length c3]
  have HR := fun w hx => areRuns_any G c3 a.g w hx l3
  by_cases hr : runB a.g = true
  ·rw [hr] at HR
   have HRN := Lib.hid hr
   clear hr
   have hmf : ∀ (fn : Fn) (first cap : Array Value) (w : World), (Instr.makeFunc fn first cap).run Try.prog w = .ok (.func fn first cap) w := fun _ _ _ _ => rfl
   go_enter Try.func67, Try.ntmps67
   go_wp2_with fail
   refine (HR _ (hx.g.keep hb0)).mono ?_
   rintro _ w1 ⟨rfl, hb1⟩
   have hB1 := bstep hb0 hb1
   have hBl1 := hBl.keep hb1
   have q0 : World.cell? w1 ⟨w.heap.size, 0, none⟩ = some (.slice S a.s.length c1) := hBl1.cell 0
   have f0 := hBl1.frozen 0
   have q1 : World.cell? w1 ⟨w.heap.size, 1, none⟩ = some (.slice N a.n.length c2) := hBl1.cell 1
   have f1 := hBl1.frozen 1
   have q2 : World.cell? w1 ⟨w.heap.size, 2, none⟩ = some (.slice G a.g.length c3) := hBl1.cell 2
   have f2 := hBl1.frozen 2
   have fl := hBl1.lt
   have hls := hB1.size
   by_cases hs : a.s.any (wrongB (-1000000000)) = true
   ·have HC := fun w g t hx hg => contains_any S c1 a.s (-1000000000) g t w hx l1 hg
    rw [hs] at HC
    have HV := Lib.hid (err_val HM.out (by rw [hs]; rfl))
    clear hs
    go_wp2_with fail
    refine (HC _ w1.heap.size 2 (hx.s.keep (hB1.alloc hls _)) (Blk.new w1 _ _)).mono ?_
    rintro _ w2 ⟨rfl, hb2⟩
    go_wp2
    go_ret
    exact ⟨ret_int HV.out.symm, bstep (hB1.alloc hls _) hb2⟩
   ·have hs' : a.s.any (wrongB (-1000000000)) = false := by simpa using hs
    have HC := fun w g t hx hg => contains_any S c1 a.s (-1000000000) g t w hx l1 hg
    rw [hs'] at HC
    have HS := Lib.hid hs'
    clear hs hs'
    go_wp2_with fail
    refine (HC _ w1.heap.size 2 (hx.s.keep (hB1.alloc hls _)) (Blk.new w1 _ _)).mono ?_
    rintro _ w2 ⟨rfl, hb2⟩
    have hB2 := bstep (hB1.alloc hls _) hb2
    have hK := (Blk.new w1 2 #[.int .i64 (-1000000000)]).keep hb2
    have hBl2 := (hBl1.alloc (.cells #[.int .i64 (-1000000000)] 2)).keep hb2
    have p0 : World.cell? w2 ⟨w1.heap.size, 0, none⟩ = some (.int .i64 (-1000000000)) := hK.cell 0
    have pf0 := hK.frozen 0
    have pfl := hK.lt
    have r0 : World.cell? w2 ⟨w.heap.size, 0, none⟩ = some (.slice S a.s.length c1) := hBl2.cell 0
    have rf0 := hBl2.frozen 0
    have r1 : World.cell? w2 ⟨w.heap.size, 1, none⟩ = some (.slice N a.n.length c2) := hBl2.cell 1
    have rf1 := hBl2.frozen 1
    have r2 : World.cell? w2 ⟨w.heap.size, 2, none⟩ = some (.slice G a.g.length c3) := hBl2.cell 2
    have rf2 := hBl2.frozen 2
    have rfl := hBl2.lt
    have hne : ¬ w.heap.size = w1.heap.size := by omega
    have hK3 := hK.put 0 (.int .i64 0)
    have hB3 := hB2.setCell (p := ⟨w1.heap.size, 0, none⟩) hls (.int .i64 0)
    clear q0 q1 q2
    by_cases hn : a.n.any (wrongB 0) = true
    ·have HD := fun w g t hx hg => contains_any N c2 a.n 0 g t w hx l2 hg
     rw [hn] at HD
     have HV := Lib.hid (err_val HM.out (by rw [hn]; simp))
     clear hn HC
     go_wp2_with fail
     refine (HD _ w1.heap.size 2 (hx.n.keep hB3) hK3).mono ?_
     rintro _ w3 ⟨rfl, hb3⟩
     go_wp2
     go_ret
     exact ⟨ret_int HV.out.symm, bstep hB3 hb3⟩
    ·have hn' : a.n.any (wrongB 0) = false := by simpa using hn
     have HD := fun w g t hx hg => contains_any N c2 a.n 0 g t w hx l2 hg
     rw [hn'] at HD
     have HV := Lib.hid (err_ok HM.out HL.out HP.out HRN.out HS.out hn')
     clear hn hn' HC
     go_wp2_with fail
     refine (HD _ w1.heap.size 2 (hx.n.keep hB3) hK3).mono ?_
     rintro _ w3 ⟨rfl, hb3⟩
     go_wp2
     go_ret
     exact ⟨ret_int HV.out.symm, bstep hB3 hb3⟩
  ·have hr' : runB a.g = false := by simpa using hr
   rw [hr'] at HR
   have HF := Lib.hid (err_form HM.out (.inr (.inr hr')))
   clear hr hr'
   go_enter Try.func67, Try.ntmps67
   go_wp2_with fail
   refine (HR _ (hx.g.keep hb0)).mono ?_
   rintro _ w1 ⟨rfl, hb1⟩
   go_wp2
   go_ret
   exact ⟨ret_int HF.out.symm, bstep hb0 hb1⟩
 ·have e1 : ((a.s.length : Int) != a.n.length) = true := by simp; omega
  have HF := Lib.hid (err_form HM.out (.inl hlen))
  clear hlen
  go_enter Try.func67, Try.ntmps67
  go_wp2
  go_ret
  exact ⟨ret_int HF.out.symm, hb0⟩
end Go.Proofs.Ytdekbncpodjgnaa
