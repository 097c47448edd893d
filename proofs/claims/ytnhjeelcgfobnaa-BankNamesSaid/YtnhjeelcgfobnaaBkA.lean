/-
  Layer 12 (bank): what is computed, in plain words: errors of moduli and banks; contracts of the moduli, of width, of the wrong numbers.
-/
import Derived.Test.YtnhjeelcgfobnaaPFouG
import Derived.Test.YtnhjeelcgfobnaaPFouG
namespace Go.Proofs.Ytnhjeelcgfobnaa
open Go.RowKit Num
set_option maxRecDepth 8000
set_option linter.unusedVariables false
set_option linter.unusedSimpArgs false
namespace Bk
open Lol

noncomputable def modE (p : Int) : Int := if p < 7 then 2 else chkE p
theorem mod_cases (p : Int) : (modE p = 0 ∧ okP p = true ∧ ∃ P : Nat, p = P ∧ 7 ≤ P ∧ P ≤ 2000000000 ∧ Pr P) ∨ modE p = 2 := by
  unfold modE
  by_cases h : p < 7
  · rw [if_pos h]; exact .inr rfl
  · rw [if_neg h]
    rcases ok_cases p with ⟨h1, h0, P, rfl, h2, h3, h4⟩ | ⟨h1, _⟩
    · exact .inl ⟨h1, h0, P, rfl, by omega, h3, h4⟩
    · exact .inr h1
def badB (p x : Int) : Bool := decide (x < 0 ∨ p ≤ x)
def blkE (p : Int) (m : Nat) (l : List Int) : Int :=
  if l.length < 1 ∨ 16 < l.length then 4 else if (p - 1) % (l.length : Int) ≠ 0 then 6 else if l.length ≠ m ∨ l.any (badB p) = true then 8 else 0
def firstE (p : Int) (m : Nat) : List (List Int) → Int
  | [] => 0
  | l :: r => if blkE p m l ≠ 0 then blkE p m l else firstE p m r
def wid (b : List (List Int)) : Nat := (b.headD []).length
def bankE (p : Int) (b : List (List Int)) : Int := if 256 < b.length then 4 else firstE p (wid b) b
noncomputable def bothE12 (p : Int) (b : List (List Int)) : Int := if modE p ≠ 0 then 2 else bankE p b
noncomputable def twoE (p : Int) (a b : List (List Int)) : Int :=
  if bothE12 p a ≠ 0 then bothE12 p a else if bankE p b ≠ 0 then bankE p b else if a.length ≠ b.length ∨ wid a ≠ wid b then 2 else 0
/-- A bank whose blocks have n numbers below P. -/
structure Bank (P n : Nat) (b : List (List Int)) : Prop where
  len : b.length ≤ 256
  row : ∀ k (h : k < b.length), b[k].length = n ∧ 1 ≤ n ∧ n ≤ 16 ∧ ((P : Int) - 1) % (n : Int) = 0 ∧ ∀ j, j < n → 0 ≤ b[k].getD j 0 ∧ b[k].getD j 0 < P
theorem wid_at {b : List (List Int)} (h : 0 < b.length) : wid b = b[0].length := by
  cases b with
  | nil => simp at h
  | cons x r => rfl
theorem firstE_step {p : Int} {m : Nat} {b : List (List Int)} {k : Nat} (hk : k < b.length) : firstE p m (b.drop k) = if blkE p m b[k] ≠ 0 then blkE p m b[k] else firstE p m (b.drop (k + 1)) := by
  rw [List.drop_eq_getElem_cons hk, firstE]
theorem any_badB {p : Int} {l : List Int} : l.any (badB p) = false ↔ ∀ j, j < l.length → 0 ≤ l.getD j 0 ∧ l.getD j 0 < p := by
  rw [List.any_eq_false]
  constructor
  · intro h j hj
    have := h _ (List.getElem_mem hj)
    rw [getD_lt _ _ hj]
    unfold badB at this
    simp only [decide_eq_true_eq] at this
    omega
  · intro h x hx
    obtain ⟨j, hj, e⟩ := List.getElem_of_mem hx
    have := h j hj
    rw [getD_lt _ _ hj, e] at this
    unfold badB
    simp only [decide_eq_true_eq]
    omega
theorem firstE_zero {P : Nat} {m : Nat} : ∀ {b : List (List Int)}, firstE (P : Int) m b = 0 → ∀ k (h : k < b.length), b[k].length = m ∧ 1 ≤ m ∧ m ≤ 16 ∧ ((P : Int) - 1) % (m : Int) = 0 ∧ ∀ j, j < m → 0 ≤ b[k].getD j 0 ∧ b[k].getD j 0 < P := by
  intro b
  induction b with
  | nil => intro _ k h; simp at h
  | cons l r ih =>
    intro h k hk
    rw [firstE] at h
    by_cases h0 : blkE (P : Int) m l = 0
    · rw [if_neg (by simp [h0])] at h
      cases k with
      | zero =>
        simp only [List.getElem_cons_zero]
        unfold blkE at h0
        split at h0
        · omega
        · split at h0
          · omega
          · split at h0
            · omega
            · rename_i h1 h2 h3
              have h4 : l.length = m := by omega
              have h5 : l.any (badB P) = false := by
                cases h6 : l.any (badB (P : Int))
                · rfl
                · exact absurd (.inr h6) h3
              subst h4
              refine ⟨rfl, by omega, by omega, by omega, any_badB.1 h5⟩
      | succ k => simp only [List.getElem_cons_succ]; exact ih h k (by simpa using hk)
    · rw [if_pos h0] at h
      exact absurd h h0
theorem bank_zero {P : Nat} {b : List (List Int)} (h : bankE (P : Int) b = 0) : Bank P (wid b) b := by
  unfold bankE at h
  split at h
  · omega
  · exact ⟨by omega, firstE_zero h⟩
theorem firstE_ok {P : Nat} {m : Nat} : ∀ {b : List (List Int)}, (∀ k (h : k < b.length), b[k].length = m ∧ 1 ≤ m ∧ m ≤ 16 ∧ ((P : Int) - 1) % (m : Int) = 0 ∧ ∀ j, j < m → 0 ≤ b[k].getD j 0 ∧ b[k].getD j 0 < P) → firstE (P : Int) m b = 0 := by
  intro b
  induction b with
  | nil => intro _; rfl
  | cons l r ih =>
    intro h
    rw [firstE]
    have h1 := h 0 (by simp)
    simp only [List.getElem_cons_zero] at h1
    obtain ⟨h2, h3, h4, h5, h6⟩ := h1
    have h0 : blkE (P : Int) m l = 0 := by
      unfold blkE
      subst h2
      rw [if_neg (by omega), if_neg (by omega), if_neg]
      rintro (h7 | h7)
      · exact h7 rfl
      · rw [any_badB.2 h6] at h7; cases h7
    rw [if_neg (by simp [h0])]
    exact ih fun k hk => by have := h (k + 1) (by simpa using hk); simpa using this
theorem bank_ok {P n : Nat} {b : List (List Int)} (h : Bank P n b) : bankE (P : Int) b = 0 := by
  unfold bankE
  rw [if_neg (by have := h.len; omega)]
  rcases Nat.eq_zero_or_pos b.length with h0 | h0
  · rw [List.eq_nil_of_length_eq_zero h0]; rfl
  · rw [wid_at h0, (h.row 0 h0).1]
    exact firstE_ok h.row
theorem Bank.wid {P n : Nat} {b : List (List Int)} (h : Bank P n b) (h0 : 0 < b.length) : Bk.wid b = n := by
  rw [wid_at h0, (h.row 0 h0).1]
theorem two_zero {p : Int} {a b : List (List Int)} (h : twoE p a b = 0) : ∃ P : Nat, p = P ∧ 7 ≤ P ∧ P ≤ 2000000000 ∧ Pr P ∧ Bank P (wid a) a ∧ Bank P (wid b) b ∧ a.length = b.length ∧ wid a = wid b := by
  unfold twoE at h
  split at h
  · rename_i h1; exact absurd h h1
  · split at h
    · rename_i h1; exact absurd h h1
    · split at h
      · omega
      · rename_i h1 h2 h3
        simp only [ne_eq, Decidable.not_not] at h1 h2
        unfold bothE12 at h1
        rcases mod_cases p with ⟨e, _, P, rfl, h4, h5, h6⟩ | e
        · rw [if_neg (by simp [e])] at h1
          exact ⟨P, rfl, h4, h5, h6, bank_zero h1, bank_zero h2, by omega, by omega⟩
        · rw [if_pos (by simp [e])] at h1
          omega
/-! ### contracts -/
theorem modulus_any (p : Int) (w : World) (hp1 : -9223372036854775808 ≤ p) (hp2 : p ≤ 9223372036854775807) :
    Calls Try.prog 41 #[.int .i64 p] w fun e w' => e = .returned (.int .i64 (modE p)) ∧ Below w.heap.size w w' := by
  by_cases h : p < 7
  · have d1 : decide (p < 7) = true := decide_eq_true h
    have HE := Lib.hid (show modE p = 2 by unfold modE; rw [if_pos h])
    go_enter Try.func41, Try.ntmps41
    go_wp2
    go_ret
    exact ⟨ret_int HE.out.symm, Below.refl _ _⟩
  · have d1 : decide (p < 7) = false := decide_eq_false h
    have HE := Lib.hid (show modE p = chkE p by unfold modE; rw [if_neg h])
    go_enter Try.func41, Try.ntmps41
    go_wp2_with fail
    refine (ringCheck_any _ _ hp1 hp2).mono ?_
    rintro _ w1 ⟨rfl, hb1⟩
    go_wp2
    go_ret
    exact ⟨ret_int HE.out.symm, hb1⟩
theorem refModulus_any (p : Int) (w : World) (hp1 : -9223372036854775808 ≤ p) (hp2 : p ≤ 9223372036854775807) :
    Calls Try.prog 59 #[.int .i64 p] w fun e w' => e = .returned (.int .i64 (modE p)) ∧ Below w.heap.size w w' := by
  by_cases h : p < 7
  · have d1 : decide (p < 7) = true := decide_eq_true h
    have HE := Lib.hid (show modE p = 2 by unfold modE; rw [if_pos h])
    go_enter Try.func59, Try.ntmps59
    go_wp2
    go_ret
    exact ⟨ret_int HE.out.symm, Below.refl _ _⟩
  · have d1 : decide (p < 7) = false := decide_eq_false h
    have HE := Lib.hid (show modE p = chkE p by unfold modE; rw [if_neg h])
    rcases ok_cases p with ⟨h1, _⟩ | ⟨h1, _⟩
    · have c0 : (chkE p != 0) = false := by rw [h1]; rfl
      go_enter Try.func59, Try.ntmps59
      go_wp2_with fail
      refine (refCheck_any _ _ hp1 hp2).mono ?_
      rintro _ w1 ⟨rfl, hb1⟩
      go_wp2
      go_ret
      exact ⟨ret_int (HE.out.trans h1).symm, hb1⟩
    · have c0 : (chkE p != 0) = true := by rw [h1]; rfl
      go_enter Try.func59, Try.ntmps59
      go_wp2_with fail
      refine (refCheck_any _ _ hp1 hp2).mono ?_
      rintro _ w1 ⟨rfl, hb1⟩
      go_wp2
      go_ret
      exact ⟨ret_int (HE.out.trans h1).symm, hb1⟩
theorem width_any (A : Option Addr) (c : Nat) (b : List (List Int)) (w : World) (hx : RLL .i64 w A b) :
    Calls Try.prog 40 #[.slice A b.length c] w fun e w' => e = .returned (.int .i64 (wid b : Nat)) ∧ w = w' := by
  cases b with
  | nil =>
    go_enter Try.func40, Try.ntmps40
    go_wp2
    go_ret
    exact ⟨rfl, rfl⟩
  | cons l r =>
    obtain ⟨b1, off1, A', c', rfl, hlw1, hc1, hr, hcap1⟩ := hx.at_ (i := 0) (by simp)
    simp only [List.getElem_cons_zero, Nat.add_zero] at hc1
    have e1 : ((((l :: r).length : Nat) : Int) == 0) = false := by rw [beq_eq_false_iff_ne]; simp; omega
    have hpos : 0 < (l :: r).length := by simp
    have HW : Hid (wid (l :: r) = l.length) := Lib.hid rfl
    generalize (l :: r).length = n at *
    go_enter Try.func40, Try.ntmps40
    go_wp2
    go_ret
    exact ⟨ret_int (by rw [HW.out]), rfl⟩
theorem wrong_any (p x : Int) (g : Nat) (w : World) (hc : w.cell? ⟨g, 0, none⟩ = some (.int .i64 p)) (hl : g < w.heap.size) :
    Calls Try.prog 70 #[.int .i64 x, .pointer (some ⟨g, 0, none⟩)] w fun e w' => e = .returned (.bool (badB p x)) ∧ w = w' := by
  rcases (show x < 0 ∨ (0 ≤ x ∧ p ≤ x) ∨ (0 ≤ x ∧ x < p) by omega) with h | ⟨h, h'⟩ | ⟨h, h'⟩
  · have d1 : decide (x < 0) = true := decide_eq_true h
    have HE := Lib.hid (show badB p x = true by unfold badB; rw [decide_eq_true_eq]; omega)
    go_enter Try.func70, Try.ntmps70
    go_wp2
    go_ret
    exact ⟨ret_bool HE.out.symm, rfl⟩
  · have d1 : decide (x < 0) = false := decide_eq_false (by omega)
    have d2 : decide (p ≤ x) = true := decide_eq_true h'
    have HE := Lib.hid (show badB p x = true by unfold badB; rw [decide_eq_true_eq]; omega)
    go_enter Try.func70, Try.ntmps70
    go_wp2
    go_ret
    exact ⟨ret_bool HE.out.symm, rfl⟩
  · have d1 : decide (x < 0) = false := decide_eq_false (by omega)
    have d2 : decide (p ≤ x) = false := decide_eq_false (by omega)
    have HE := Lib.hid (show badB p x = false by unfold badB; rw [decide_eq_false_iff_not]; omega)
    go_enter Try.func70, Try.ntmps70
    go_wp2
    go_ret
    exact ⟨ret_bool HE.out.symm, rfl⟩
theorem indexFunc_any (p : Int) (g : Nat) (A : Option Addr) (c : Nat) (l : List Int) (w : World) (hx : RI .i64 w A l) (hl : l.length ≤ 1000) (hc : w.cell? ⟨g, 0, none⟩ = some (.int .i64 p)) (hg : g < w.heap.size) :
    Calls Try.prog 80 #[.slice A l.length c, .func (.func 70) #[] #[.pointer (some ⟨g, 0, none⟩)]] w fun e w' => (∃ i : Int, e = .returned (.int .i64 i) ∧ decide (0 ≤ i) = l.any (badB p)) ∧ w = w' := by
  go_enter Try.func80, Try.ntmps80
  go_wp2
  go_loopg [8] l.length (fun gk i wr => ∃ k : Nat, k + gk = l.length ∧ i = .int .i64 k ∧ wr = w ∧ Hid (∀ j, j < k → badB p (l.getD j 0) = false))
  case atStart => exact ⟨0, by omega, rfl, rfl, Lib.hid (by intro j hj; omega)⟩
  case round =>
    obtain ⟨k, hk, rfl, rfl, HA⟩ := hrel
    have hk' : k ≤ l.length := by omega
    have HK := Lib.hid hk
    clear hk
    by_cases hlt : k < l.length
    · obtain ⟨b1, off1, rfl, hlw1, hc1⟩ := hx.at2 hlt
      have HB := Lib.hid (fun h : badB p (l.getD k 0) = true => (List.any_eq_true.2 ⟨l[k], List.getElem_mem hlt, by rw [getD_lt _ _ hlt] at h; exact h⟩ : l.any (badB p) = true))
      have HG := Lib.hid (fun h : badB p (l.getD k 0) = false => show ∀ j, j < k + 1 → badB p (l.getD j 0) = false from fun j hj => by
        rcases Nat.lt_or_ge j k with h1 | h1
        · exact HA.out j h1
        · obtain rfl : j = k := by omega
          exact h)
      have HC := fun x => wrong_any p x g wr hc hg
      generalize l.getD k 0 = x at *
      replace HC := HC x
      cases hb : badB p x
      · rw [hb] at HC
        have HN := Lib.hid (HG.out hb)
        go_wp2_with fail
        refine (HC).mono ?_
        rintro _ _ ⟨rfl, rfl⟩
        go_wp2
        go_roundg (gk - 1)
        case rel => exact ⟨k + 1, by have := HK.out; omega, by go_num, rfl, HN⟩
        case measure => have := HK.out; omega
      · rw [hb] at HC
        have HN := Lib.hid (HB.out hb)
        go_wp2_with fail
        refine (HC).mono ?_
        rintro _ _ ⟨rfl, rfl⟩
        go_wp2
        go_ret
        exact ⟨⟨_, rfl, by rw [HN.out]; simp⟩, rfl⟩
    · have HE := Lib.hid (show l.any (badB p) = false from List.any_eq_false.2 fun x hx => by
        obtain ⟨j, hj, e⟩ := List.getElem_of_mem hx
        have := HA.out j (by omega)
        rw [getD_lt _ _ hj, e] at this
        simp [this])
      go_wp2
      go_ret
      exact ⟨⟨_, rfl, by rw [HE.out]; rfl⟩, rfl⟩
theorem containsFunc_any (p : Int) (g : Nat) (A : Option Addr) (c : Nat) (l : List Int) (w : World) (hx : RI .i64 w A l) (hl : l.length ≤ 1000) (hc : w.cell? ⟨g, 0, none⟩ = some (.int .i64 p)) (hg : g < w.heap.size) :
    Calls Try.prog 71 #[.slice A l.length c, .func (.func 70) #[] #[.pointer (some ⟨g, 0, none⟩)]] w fun e w' => e = .returned (.bool (l.any (badB p))) ∧ w = w' := by
  have HC := indexFunc_any p g A c l w hx hl hc hg
  go_enter Try.func71, Try.ntmps71
  go_wp2_with fail
  refine (HC).mono ?_
  rintro _ _ ⟨⟨i, rfl, HI⟩, rfl⟩
  have HH := Lib.hid HI
  clear HI
  go_wp2
  go_ret
  exact ⟨ret_bool (by rw [← HH.out]), rfl⟩
end Bk
end Go.Proofs.Ytnhjeelcgfobnaa
