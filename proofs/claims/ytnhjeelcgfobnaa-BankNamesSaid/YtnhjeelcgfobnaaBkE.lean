/-
  Layer 12 (bank), contracts: Keep, Add, Shift, Power.
-/
import Derived.Test.YtnhjeelcgfobnaaBkD
namespace Go.Proofs.Ytnhjeelcgfobnaa
open Go.RowKit Num
set_option maxRecDepth 8000
set_option linter.unusedVariables false
set_option linter.unusedSimpArgs false
namespace Bk
open Lol

/-! ### slices of truth values -/
def RBo (w : World) (A : Option Addr) (l : List Bool) : Prop :=
  0 < l.length → ∃ b off, A = some ⟨b, off, none⟩ ∧ b < w.heap.size ∧ ∀ j, j < l.length → w.cell? ⟨b, off + j, none⟩ = some (.bool (l.getD j false))
theorem RBo.nil {w : World} {A : Option Addr} : RBo w A [] := fun h => absurd h (by simp)
theorem RBo.keep {w w' : World} {A : Option Addr} {l : List Bool} (h : RBo w A l) (hb : Below w.heap.size w w') : RBo w' A l := by
  intro h0
  obtain ⟨b, off, e, hlt, hc⟩ := h h0
  exact ⟨b, off, e, Nat.lt_of_lt_of_le hlt hb.size, fun j hj => (hb.cell (p := ⟨b, off + j, none⟩) hlt).trans (hc j hj)⟩
def encB (x : Bool) : List Value := [.bool x]
theorem encB_len (x : Bool) : (encB x).length = 1 := rfl
theorem flatB (l : List Bool) : l.flatMap encB = l.map Value.bool := by induction l <;> simp_all [encB]
theorem blk_RBo {w : World} {e : TypeId} {g : Nat} {l : List Bool} (h : Blk w g e (l.flatMap encB).toArray) : RBo w (some ⟨g, 0, none⟩) l := by
  intro h0
  refine ⟨g, 0, rfl, h.lt, fun j hj => ?_⟩
  rw [Nat.zero_add, h.cell, flatB]
  simp [List.getElem?_eq_getElem hj]
/-! ### what is computed -/
def bat (b : List (List Int)) (t k : Nat) : Int := (b.getD t []).getD k 0
theorem bat_at {b : List (List Int)} {t : Nat} (h : t < b.length) (k : Nat) : bat b t k = b[t].getD k 0 := by unfold bat; rw [getD_lt _ _ h]
def keepF (b : List (List Int)) (kp : List Bool) (t k : Nat) : Int := if kp.getD k false = true then bat b t k else 0
noncomputable def keepS (p : Int) (b : List (List Int)) (kp : List Bool) : List (List Int) × Int :=
  if bothE12 p b ≠ 0 then ([], bothE12 p b) else if 0 < b.length ∧ kp.length ≠ wid b then ([], 2) else (grd (keepF b kp) (wid b) b.length, 0)
def addF (p : Int) (a b : List (List Int)) (t k : Nat) : Int := (bat a t k + bat b t k) % p
noncomputable def addS (p : Int) (a b : List (List Int)) : List (List Int) × Int := if twoE p a b ≠ 0 then ([], twoE p a b) else (grd (addF p a b) (wid a) a.length, 0)
noncomputable def shiftR (p : Int) (b : List (List Int)) (d : Int) (t : Nat) : List Int := (phS p (b.getD t []) d).1
noncomputable def shiftS (p : Int) (b : List (List Int)) (d : Int) : List (List Int) × Int := if bothE12 p b ≠ 0 then ([], bothE12 p b) else (fullL (shiftR p b d) b.length, 0)
def powF (p : Int) (a b : List (List Int)) (n k : Nat) : Int := sumM p (fun t => bat a t k * bat b t ((n - k) % n)) a.length
noncomputable def powS (p : Int) (a b : List (List Int)) : List Int × Int := if twoE p a b ≠ 0 then ([], twoE p a b) else (fullL (powF p a b (wid a)) (wid a), 0)
theorem both_zero {p : Int} {b : List (List Int)} (h : bothE12 p b = 0) : ∃ P : Nat, p = P ∧ 7 ≤ P ∧ P ≤ 2000000000 ∧ Pr P ∧ Bank P (wid b) b := by
  unfold bothE12 at h
  rcases mod_cases p with ⟨e, _, P, rfl, h4, h5, h6⟩ | e
  · rw [if_neg (by simp [e])] at h
    exact ⟨P, rfl, h4, h5, h6, bank_zero h⟩
  · rw [if_pos (by simp [e])] at h
    omega
theorem Bank.wid16 {P n : Nat} {b : List (List Int)} (h : Bank P n b) : Bk.wid b ≤ 16 := by
  rcases Nat.eq_zero_or_pos b.length with h0 | h0
  · rw [List.eq_nil_of_length_eq_zero h0]; exact Nat.zero_le _
  · rw [h.wid h0]; exact (h.row 0 h0).2.2.1
theorem Bank.fit {P n : Nat} {b : List (List Int)} (h : Bank P n b) (hP : Pr P) (h2 : P ≤ 2000000000) {t : Nat} (ht : t < b.length) : Fit P b[t] := by
  obtain ⟨h1, h3, h4, h5, h6⟩ := h.row t ht
  have := hP.1
  refine ⟨hP, h2, by omega, by omega, ?_, fun j hj => h6 j (by omega)⟩
  rw [h1]
  have e : ((P : Int) - 1) % (n : Int) = (((P - 1) % n : Nat) : Int) := by rw [Int.natCast_emod]; congr 1; omega
  rw [e] at h5
  exact_mod_cast h5
theorem keep1_any (gA gB : Nat) (K : Option Addr) (ck : Nat) (kp : List Bool) (A : Option Addr) (c : Nat) (b : List (List Int)) (W : World) (t k : Nat) (ht : t < b.length) (hk : k < b[t].length) (hkp : k < kp.length)
    (hA : W.cell? ⟨gA, 0, none⟩ = some (.slice K kp.length ck)) (lA : gA < W.heap.size) (hB : W.cell? ⟨gB, 0, none⟩ = some (.slice A b.length c)) (lB : gB < W.heap.size) (hx : RLL .i64 W A b) (hy : RBo W K kp) :
    Calls Try.prog 50 #[.int .i64 (t : Int), .int .i64 (k : Int), .pointer (some ⟨gA, 0, none⟩), .pointer (some ⟨gB, 0, none⟩)] W fun e w' => e = .returned (.int .i64 (keepF b kp t k)) ∧ ∃ q, w' = W.drewN q := by
  obtain ⟨b1, off1, A', c', rfl, hlw1, hc1, hr, hcap1⟩ := hx.at_ (i := t) ht
  obtain ⟨b2, off2, rfl, hlw2, hc2⟩ := hr.at2 hk
  obtain ⟨b3, off3, rfl, hlw3, hc3⟩ := hy (by omega)
  replace hc3 := hc3 k hkp
  have HE := Lib.hid (show keepF b kp t k = if kp.getD k false = true then b[t].getD k 0 else 0 by unfold keepF; rw [bat_at ht])
  generalize kp.getD k false = z at *
  generalize hl : b[t] = l at *
  clear hl
  generalize l.getD k 0 = x at *
  cases z
  · have HE2 := Lib.hid (show keepF b kp t k = 0 by rw [HE.out]; rfl)
    go_enter Try.func50, Try.ntmps50
    go_wp2
    go_ret
    exact ⟨ret_int HE2.out.symm, 0, rfl⟩
  · have HE2 := Lib.hid (show keepF b kp t k = x by rw [HE.out]; rfl)
    go_enter Try.func50, Try.ntmps50
    go_wp2
    go_ret
    exact ⟨ret_int HE2.out.symm, 0, rfl⟩
theorem add1_any (p : Int) (gA gB gC : Nat) (A B : Option Addr) (c d : Nat) (a b : List (List Int)) (W : World) (t k : Nat) (ht : t < a.length) (ht2 : t < b.length) (hk : k < a[t].length) (hk2 : k < b[t].length) (hp : 1 ≤ p ∧ p ≤ 2000000000) (ha : 0 ≤ a[t].getD k 0 ∧ a[t].getD k 0 < p) (hb : 0 ≤ b[t].getD k 0 ∧ b[t].getD k 0 < p)
    (hA : W.cell? ⟨gA, 0, none⟩ = some (.slice A a.length c)) (lA : gA < W.heap.size) (hB : W.cell? ⟨gB, 0, none⟩ = some (.slice B b.length d)) (lB : gB < W.heap.size) (hC : W.cell? ⟨gC, 0, none⟩ = some (.int .i64 p)) (lC : gC < W.heap.size) (hx : RLL .i64 W A a) (hy : RLL .i64 W B b) :
    Calls Try.prog 34 #[.int .i64 (t : Int), .int .i64 (k : Int), .pointer (some ⟨gA, 0, none⟩), .pointer (some ⟨gB, 0, none⟩), .pointer (some ⟨gC, 0, none⟩)] W fun e w' => e = .returned (.int .i64 (addF p a b t k)) ∧ ∃ q, w' = W.drewN q := by
  obtain ⟨b1, off1, A', c', rfl, hlw1, hc1, hr, hcap1⟩ := hx.at_ (i := t) ht
  obtain ⟨b2, off2, rfl, hlw2, hc2⟩ := hr.at2 hk
  obtain ⟨b3, off3, B', d', rfl, hlw3, hc3, hs, hcap3⟩ := hy.at_ (i := t) ht2
  obtain ⟨b4, off4, rfl, hlw4, hc4⟩ := hs.at2 hk2
  have HE := Lib.hid (show (a[t].getD k 0 + b[t].getD k 0) % p = addF p a b t k by unfold addF; rw [bat_at ht, bat_at ht2])
  generalize hl : a[t] = l at *
  generalize hl' : b[t] = l' at *
  clear hl hl'
  generalize l.getD k 0 = x at *
  generalize l'.getD k 0 = y at *
  have hz1 : (p == 0) = false := by rw [beq_eq_false_iff_ne]; omega
  obtain ⟨z, hz⟩ : ∃ z, z = x + y := ⟨_, rfl⟩
  have hw : IntKind.i64.wrap (x + y) = z := by rw [IntWalk.i64_in _ (by omega), hz]
  have hz0 : 0 ≤ z := by omega
  rw [← hz] at HE
  have ht : z.tmod p = z % p := Int.tmod_eq_emod_of_nonneg hz0
  clear hz
  go_enter Try.func34, Try.ntmps34
  go_wp2_with fail
  go_quiet (fail)
  go_wp2
  go_ret
  exact ⟨ret_int (by first | exact HE.out | (rw [← HE.out, ht])), _, rfl⟩
end Bk
end Go.Proofs.Ytnhjeelcgfobnaa
