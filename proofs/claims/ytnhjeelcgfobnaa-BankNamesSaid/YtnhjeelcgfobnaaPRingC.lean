/-
  Contracts: ring.factors, fringeref10.Factors, ring.Factors: the prime factors in order.
  Contracts: Check, Both, element, Pow, Inv, Factors (the program's and the reference's).
  Contracts: Pow, Inv, Factors (the program's and the reference's).
-/
import Derived.Test.YtnhjeelcgfobnaaPRingA
import Derived.Test.YtnhjeelcgfobnaaPRows
import Derived.Test.YtnhjeelcgfobnaaPNumF
import Derived.OwnWalk
import Derived.Laws.AppendOwnNone
import Derived.Deep.RegionHeld3
namespace Go.Proofs.Ytnhjeelcgfobnaa
open Go.RowKit Num
set_option maxRecDepth 8000
set_option linter.unusedVariables false

def toI (l : List Nat) : List Int := l.map (fun x : Nat => (x : Int))
theorem toI_len (l : List Nat) : (toI l).length = l.length := by simp [toI]
theorem toI_snoc (l : List Nat) (x : Nat) : toI (l ++ [x]) = toI l ++ [(x : Int)] := by simp [toI]
theorem toI_at (l : List Nat) {i : Nat} (h : i < l.length) : (toI l).getD i 0 = (l.getD i 0 : Int) := by
  rw [getD_lt _ _ (by rw [toI_len]; exact h), getD_lt _ _ h]; simp [toI]
theorem info_int64 : ∃ i, Try.prog.info? 2 = some i ∧ i.zero = some (.int .i64 0) ∧ i.size = 1 ∧ i.bytes = 8 := by
  refine ⟨_, rfl, ?_⟩
  exact ⟨rfl, rfl, rfl⟩

theorem quo_wrap {m q : Nat} (h : m ≤ 2000000000) : wrap64 ((m : Int) / (q : Int)) = ((m / q : Nat) : Int) := by
  have h1 : m / q ≤ m := Nat.div_le_self m q
  have h2 : ((m / q : Nat) : Int) ≤ 2000000000 := by omega
  have h3 : 0 ≤ ((m / q : Nat) : Int) := Int.natCast_nonneg _
  rw [← Int.natCast_ediv]
  exact IntWalk.wrap64_in _ ⟨by omega, by omega⟩

def RetF (w : World) (l : List Int) (e : Ending) (w' : World) : Prop :=
  ∃ A c, e = .returned (.slice A l.length c) ∧ RI .i64 w' A l ∧ Below w.heap.size w w'
def RetFE (w : World) (r : List Int × Int) (e : Ending) (w' : World) : Prop :=
  ∃ A c, e = .returned (.tuple #[.slice A r.1.length c, .int .i64 r.2]) ∧ RI .i64 w' A r.1 ∧ Below w.heap.size w w'


set_option maxHeartbeats 2000000 in
theorem refFactors_any (n : Nat) (w : World) (h1 : 1 ≤ n) (hn : n ≤ 2000000000) :
    Calls Try.prog 81 #[.int .i64 n] w (RetFE w (toI (facs n), 0)) := by
  obtain ⟨i0, hi0, hz0, hz1, hz2⟩ := info_int64
  go_enter Try.func81, Try.ntmps81
  go_wp2
  go_loopg [4, 5, 0] 49998 (fun gk a b c wr => ∃ (v : Value) (q m : Nat) (acc : List Nat), q + gk = 50000 ∧ a = v ∧ b = .int .i64 q ∧ c = .int .i64 m ∧ 2 ≤ q ∧ q ≤ 44722 ∧ Hid (TD n q m acc) ∧ wr.ownsRow w.heap.size 2 1 v acc.length ((toI acc).flatMap (encI .i64)) ∧ Below w.heap.size w wr)
  case atStart => exact ⟨_, 2, n, [], by omega, rfl, rfl, rfl, by omega, by omega, Lib.hid (TD.start h1), World.ownsRow_nil _ _ _ _, Below.refl _ _⟩
  case round =>
    obtain ⟨v, q, m, acc, hg, rfl, rfl, rfl, h2, hq2, HT, hO, hb⟩ := hrel
    have HG := Lib.hid hg
    clear hg
    have hsz := hb.size
    have hmn := HT.out.m_le
    have hm1 := HT.out.pos
    have f1 := mul_wrap (x := q) (y := q) (by omega) (by omega)
    by_cases hlt : q * q ≤ m
    · have hq3 : q ≤ 44721 := by
        apply Classical.byContradiction
        intro hc
        have := Nat.mul_le_mul (show 44722 ≤ q by omega) (show 44722 ≤ q by omega)
        omega
      obtain ⟨gu, hgu⟩ : ∃ gu, gu = gk := ⟨gk, rfl⟩
      have HGU := Lib.hid hgu
      clear hgu
      have d1 : decide (q * q ≤ m) = true := decide_eq_true hlt
      have d2 : decide (((q * q : Nat) : Int) ≤ (m : Int)) = true := decide_eq_true (by omega)
      rw [Int.natCast_mul] at f1 d2
      go_wp2
      clear d1 d2 f1
      go_loopg [4, 0] m (fun gk a c wr => ∃ (v : Value) (m : Nat) (acc : List Nat), m = gk ∧ a = v ∧ c = .int .i64 m ∧ Hid (TD n q m acc) ∧ wr.ownsRow w.heap.size 2 1 v acc.length ((toI acc).flatMap (encI .i64)) ∧ Below w.heap.size w wr)
      case atStart => exact ⟨_, m, acc, rfl, rfl, rfl, HT, hO, hb⟩
      case round =>
        obtain ⟨v', m', acc', hm, rfl, rfl, HT', hO', hb'⟩ := hrel
        have HM := Lib.hid hm
        clear hm
        have hsz' := hb'.size
        have hmn' := HT'.out.m_le
        have hm1' := HT'.out.pos
        have hlen := len_lt HT'.out.prs HT'.out.acc_le (by omega)
        by_cases hdv : m' % q = 0
        · have f1 : (((m' % q : Nat) : Int) == 0) = true := by rw [hdv]; rfl
          have f2 : wrap64 ((m' : Int) / (q : Int)) = ((m' / q : Nat) : Int) := quo_wrap (by omega)
          have hlt2 : m' / q < m' := Nat.div_lt_self (by omega) (by omega)
          go_wp2_with (at_builtin; refine wpList_append_own _ rfl _ _ 31 rfl w.heap.size 2 i0 _ 1 8 Try.underlying31 hi0 hz0 hz1 hz2 rfl (by decide) _ acc'.length _ rfl (hO'.alloc _) ⟨wr.heap.size, 0, none⟩ 1 1 (encI .i64 (q : Int)) rfl rfl (encI_news _ _ _ _) (encI_one _ _) (by unfold maxLen; omega) (by omega) (by simp; omega) ?_; intro v2 w2 hown2 hgrow2 _)
          go_roundg (m' / q)
          case rel => exact ⟨_, m' / q, acc' ++ [q], rfl, rfl, congrArg (Value.int .i64) f2, Lib.hid (HT'.out.take h2 hdv), by rw [toI_snoc, flat_snoc, List.length_append]; exact hown2, own_below (hb'.alloc hsz' _) (hO'.alloc _) hgrow2 (Nat.le_refl _) (by simp; omega)⟩
          case measure => have := HM.out; omega
        · have f1 : (((m' % q : Nat) : Int) == 0) = false := by rw [beq_eq_false_iff_ne]; omega
          have HD := Lib.hid hdv
          clear hdv
          go_wp2
          go_roundg (gu - 1)
          case rel => exact ⟨_, q + 1, m', acc', by have := HG.out; have := HGU.out; omega, rfl, by go_num, rfl, by omega, by omega, Lib.hid (HT'.out.next HD.out), hO', hb'⟩
          case measure => have := HG.out; have := HGU.out; omega
    · have d1 : decide (q * q ≤ m) = false := decide_eq_false hlt
      have d2 : decide (((q * q : Nat) : Int) ≤ (m : Int)) = false := decide_eq_false (by omega)
      rw [Int.natCast_mul] at f1 d2
      have hlen := len_lt HT.out.prs HT.out.acc_le (by omega)
      by_cases hm2 : 1 < m
      · have hF := facs_eq (HT.out.last (by omega) hm2)
        have HF := Lib.hid hF
        clear hF
        go_wp2_with (at_builtin; refine wpList_append_own _ rfl _ _ 31 rfl w.heap.size 2 i0 _ 1 8 Try.underlying31 hi0 hz0 hz1 hz2 rfl (by decide) _ acc.length _ rfl (hO.alloc _) ⟨wr.heap.size, 0, none⟩ 1 1 (encI .i64 (m : Int)) rfl rfl (encI_news _ _ _ _) (encI_one _ _) (by unfold maxLen; omega) (by omega) (by simp; omega) ?_; intro v2 w2 hown2 hgrow2 _; obtain ⟨A8, c8, rfl, hc8⟩ := own_shape' hown2)
        have hl9 : (toI (facs n)).length = acc.length + 1 := by rw [toI_len, HF.out]; simp
        have hown : w2.ownsRow w.heap.size 2 1 (.slice A8 (acc.length + 1) c8) (acc.length + 1) ((toI (facs n)).flatMap (encI .i64)) := by
          rw [HF.out, toI_snoc, flat_snoc]; exact hown2
        have hb2 := own_below (hb.alloc hsz _) (hO.alloc _) hgrow2 (Nat.le_refl _) (by simp; omega)
        (go_ret2; exact ⟨A8, c8, by (rw [hl9]; rfl), own_RI_at hl9 hown, hb2⟩)
      · have hF := facs_eq (HT.out.done hm2)
        have HF := Lib.hid hF
        clear hF
        have e1 : decide (1 < m) = false := decide_eq_false hm2
        have e2 : decide ((1 : Int) < (m : Int)) = false := decide_eq_false (by omega)
        obtain ⟨A8, c8, rfl, hc8⟩ := own_shape' hO
        have hl9 : (toI (facs n)).length = acc.length := by rw [toI_len, HF.out]
        have hown : wr.ownsRow w.heap.size 2 1 (.slice A8 acc.length c8) acc.length ((toI (facs n)).flatMap (encI .i64)) := by
          rw [HF.out]; exact hO
        (go_wp2; go_ret2; exact ⟨A8, c8, by (rw [hl9]; rfl), own_RI_at hl9 hown, hb⟩)

set_option maxHeartbeats 2000000 in
theorem factors_any (n : Nat) (w : World) (h1 : 1 ≤ n) (hn : n ≤ 2000000000) :
    Calls Try.prog 79 #[.int .i64 n] w (RetF w (toI (facs n))) := by
  obtain ⟨i0, hi0, hz0, hz1, hz2⟩ := info_int64
  go_enter Try.func79, Try.ntmps79
  go_wp2
  go_loopg [3, 4, 0] 49998 (fun gk a b c wr => ∃ (v : Value) (q m : Nat) (acc : List Nat), q + gk = 50000 ∧ a = v ∧ b = .int .i64 q ∧ c = .int .i64 m ∧ 2 ≤ q ∧ q ≤ 44722 ∧ Hid (TD n q m acc) ∧ wr.ownsRow w.heap.size 2 1 v acc.length ((toI acc).flatMap (encI .i64)) ∧ Below w.heap.size w wr)
  case atStart => exact ⟨_, 2, n, [], by omega, rfl, rfl, rfl, by omega, by omega, Lib.hid (TD.start h1), World.ownsRow_nil _ _ _ _, Below.refl _ _⟩
  case round =>
    obtain ⟨v, q, m, acc, hg, rfl, rfl, rfl, h2, hq2, HT, hO, hb⟩ := hrel
    have HG := Lib.hid hg
    clear hg
    have hsz := hb.size
    have hmn := HT.out.m_le
    have hm1 := HT.out.pos
    have f1 := mul_wrap (x := q) (y := q) (by omega) (by omega)
    by_cases hlt : q * q ≤ m
    · have hq3 : q ≤ 44721 := by
        apply Classical.byContradiction
        intro hc
        have := Nat.mul_le_mul (show 44722 ≤ q by omega) (show 44722 ≤ q by omega)
        omega
      obtain ⟨gu, hgu⟩ : ∃ gu, gu = gk := ⟨gk, rfl⟩
      have HGU := Lib.hid hgu
      clear hgu
      have d1 : decide (q * q ≤ m) = true := decide_eq_true hlt
      have d2 : decide (((q * q : Nat) : Int) ≤ (m : Int)) = true := decide_eq_true (by omega)
      rw [Int.natCast_mul] at f1 d2
      go_wp2
      clear d1 d2 f1
      go_loopg [3, 0] m (fun gk a c wr => ∃ (v : Value) (m : Nat) (acc : List Nat), m = gk ∧ a = v ∧ c = .int .i64 m ∧ Hid (TD n q m acc) ∧ wr.ownsRow w.heap.size 2 1 v acc.length ((toI acc).flatMap (encI .i64)) ∧ Below w.heap.size w wr)
      case atStart => exact ⟨_, m, acc, rfl, rfl, rfl, HT, hO, hb⟩
      case round =>
        obtain ⟨v', m', acc', hm, rfl, rfl, HT', hO', hb'⟩ := hrel
        have HM := Lib.hid hm
        clear hm
        have hsz' := hb'.size
        have hmn' := HT'.out.m_le
        have hm1' := HT'.out.pos
        have hlen := len_lt HT'.out.prs HT'.out.acc_le (by omega)
        by_cases hdv : m' % q = 0
        · have f1 : (((m' % q : Nat) : Int) == 0) = true := by rw [hdv]; rfl
          have f2 : wrap64 ((m' : Int) / (q : Int)) = ((m' / q : Nat) : Int) := quo_wrap (by omega)
          have hlt2 : m' / q < m' := Nat.div_lt_self (by omega) (by omega)
          go_wp2_with (at_builtin; refine wpList_append_own _ rfl _ _ 31 rfl w.heap.size 2 i0 _ 1 8 Try.underlying31 hi0 hz0 hz1 hz2 rfl (by decide) _ acc'.length _ rfl (hO'.alloc _) ⟨wr.heap.size, 0, none⟩ 1 1 (encI .i64 (q : Int)) rfl rfl (encI_news _ _ _ _) (encI_one _ _) (by unfold maxLen; omega) (by omega) (by simp; omega) ?_; intro v2 w2 hown2 hgrow2 _)
          go_roundg (m' / q)
          case rel => exact ⟨_, m' / q, acc' ++ [q], rfl, rfl, congrArg (Value.int .i64) f2, Lib.hid (HT'.out.take h2 hdv), by rw [toI_snoc, flat_snoc, List.length_append]; exact hown2, own_below (hb'.alloc hsz' _) (hO'.alloc _) hgrow2 (Nat.le_refl _) (by simp; omega)⟩
          case measure => have := HM.out; omega
        · have f1 : (((m' % q : Nat) : Int) == 0) = false := by rw [beq_eq_false_iff_ne]; omega
          have HD := Lib.hid hdv
          clear hdv
          go_wp2
          go_roundg (gu - 1)
          case rel => exact ⟨_, q + 1, m', acc', by have := HG.out; have := HGU.out; omega, rfl, by go_num, rfl, by omega, by omega, Lib.hid (HT'.out.next HD.out), hO', hb'⟩
          case measure => have := HG.out; have := HGU.out; omega
    · have d1 : decide (q * q ≤ m) = false := decide_eq_false hlt
      have d2 : decide (((q * q : Nat) : Int) ≤ (m : Int)) = false := decide_eq_false (by omega)
      rw [Int.natCast_mul] at f1 d2
      have hlen := len_lt HT.out.prs HT.out.acc_le (by omega)
      by_cases hm2 : 1 < m
      · have hF := facs_eq (HT.out.last (by omega) hm2)
        have HF := Lib.hid hF
        clear hF
        go_wp2_with (at_builtin; refine wpList_append_own _ rfl _ _ 31 rfl w.heap.size 2 i0 _ 1 8 Try.underlying31 hi0 hz0 hz1 hz2 rfl (by decide) _ acc.length _ rfl (hO.alloc _) ⟨wr.heap.size, 0, none⟩ 1 1 (encI .i64 (m : Int)) rfl rfl (encI_news _ _ _ _) (encI_one _ _) (by unfold maxLen; omega) (by omega) (by simp; omega) ?_; intro v2 w2 hown2 hgrow2 _; obtain ⟨A8, c8, rfl, hc8⟩ := own_shape' hown2)
        have hl9 : (toI (facs n)).length = acc.length + 1 := by rw [toI_len, HF.out]; simp
        have hown : w2.ownsRow w.heap.size 2 1 (.slice A8 (acc.length + 1) c8) (acc.length + 1) ((toI (facs n)).flatMap (encI .i64)) := by
          rw [HF.out, toI_snoc, flat_snoc]; exact hown2
        have hb2 := own_below (hb.alloc hsz _) (hO.alloc _) hgrow2 (Nat.le_refl _) (by simp; omega)
        (go_ret; exact ⟨A8, acc.length + 1, by (rw [hl9]; rfl), own_RI_at hl9 hown, hb2⟩)
      · have hF := facs_eq (HT.out.done hm2)
        have HF := Lib.hid hF
        clear hF
        have e1 : decide (1 < m) = false := decide_eq_false hm2
        have e2 : decide ((1 : Int) < (m : Int)) = false := decide_eq_false (by omega)
        obtain ⟨A8, c8, rfl, hc8⟩ := own_shape' hO
        have hl9 : (toI (facs n)).length = acc.length := by rw [toI_len, HF.out]
        have hown : wr.ownsRow w.heap.size 2 1 (.slice A8 acc.length c8) acc.length ((toI (facs n)).flatMap (encI .i64)) := by
          rw [HF.out]; exact hO
        (go_wp2; go_ret; exact ⟨A8, acc.length, by (rw [hl9]; rfl), own_RI_at hl9 hown, hb⟩)
end Go.Proofs.Ytnhjeelcgfobnaa
namespace Go.Proofs.Ytnhjeelcgfobnaa
open Go.RowKit Num
set_option maxRecDepth 8000
set_option linter.unusedVariables false

noncomputable def okP (p : Int) : Bool := decide (2 ≤ p ∧ p ≤ 2000000000) && primeB p.toNat
noncomputable def chkE (p : Int) : Int := if okP p = true then 0 else 2
noncomputable def bothE (p a : Int) : Int := if okP p = true then (if a < 0 ∨ p ≤ a then 8 else 0) else 2
theorem okP_iff {p : Int} : okP p = true ↔ ∃ P : Nat, p = P ∧ 2 ≤ P ∧ P ≤ 2000000000 ∧ Pr P := by
  unfold okP
  rw [Bool.and_eq_true, decide_eq_true_eq, primeB_iff]
  constructor
  · rintro ⟨⟨h1, h2⟩, h3⟩
    exact ⟨p.toNat, by omega, by omega, by omega, h3⟩
  · rintro ⟨P, rfl, h1, h2, h3⟩
    refine ⟨⟨by omega, by omega⟩, ?_⟩
    rw [Int.toNat_natCast]; exact h3
theorem okP_nat {P : Nat} (h1 : 2 ≤ P) (h2 : P ≤ 2000000000) : okP (P : Int) = primeB P := by
  unfold okP
  rw [decide_eq_true (by omega), Bool.true_and, Int.toNat_natCast]
theorem okP_out {p : Int} (h : ¬ (2 ≤ p ∧ p ≤ 2000000000)) : okP p = false := by
  unfold okP
  rw [decide_eq_false h, Bool.false_and]
theorem okP_facs {P : Nat} (h1 : 2 ≤ P) (h2 : P ≤ 2000000000) : okP (P : Int) = decide ((facs P).length = 1) := by
  rw [okP_nat h1 h2, Bool.eq_iff_iff, primeB_iff, decide_eq_true_eq]
  exact facs_pr h1

theorem ringCheck_any (p : Int) (w : World) (hp1 : -9223372036854775808 ≤ p) (hp2 : p ≤ 9223372036854775807) :
    Calls Try.prog 63 #[.int .i64 p] w fun e w' => e = .returned (.int .i64 (chkE p)) ∧ Below w.heap.size w w' := by
  by_cases hr : 2 ≤ p ∧ p ≤ 2000000000
  · obtain ⟨P, rfl⟩ : ∃ P : Nat, p = P := ⟨p.toNat, by omega⟩
    have h1 : 2 ≤ P := by omega
    have h2 : P ≤ 2000000000 := by omega
    clear hr hp1 hp2
    have e0 := okP_nat h1 h2
    cases hb : primeB P
    · rw [hb] at e0
      have HE := Lib.hid (show chkE (P : Int) = 2 by unfold chkE; rw [e0]; rfl)
      clear e0
      go_enter Try.func63, Try.ntmps63
      go_wp2_with fail
      refine (prime_any P _ h1 h2).mono ?_
      rintro _ w1 ⟨rfl, hb1⟩
      rw [hb]
      go_wp2
      go_ret
      exact ⟨ret_int HE.out.symm, hb1⟩
    · rw [hb] at e0
      have HE := Lib.hid (show chkE (P : Int) = 0 by unfold chkE; rw [e0]; rfl)
      clear e0
      go_enter Try.func63, Try.ntmps63
      go_wp2_with fail
      refine (prime_any P _ h1 h2).mono ?_
      rintro _ w1 ⟨rfl, hb1⟩
      rw [hb]
      go_wp2
      go_ret
      exact ⟨ret_int HE.out.symm, hb1⟩
  · have HE := Lib.hid (show chkE p = 2 by unfold chkE; rw [okP_out hr]; rfl)
    rcases (show p < 2 ∨ (2 ≤ p ∧ 2000000000 < p) by omega) with h | ⟨h, h'⟩
    · clear hr
      go_enter Try.func63, Try.ntmps63
      go_wp2
      go_ret
      exact ⟨ret_int HE.out.symm, Below.refl _ _⟩
    · clear hr
      go_enter Try.func63, Try.ntmps63
      go_wp2
      go_ret
      exact ⟨ret_int HE.out.symm, Below.refl _ _⟩

theorem refFactorsOut_any (p : Int) (w : World) (h : 2000000000 < p) (h2 : p ≤ 9223372036854775807) :
    Calls Try.prog 81 #[.int .i64 p] w fun e w' => e = .returned (.tuple #[.slice none 0 0, .int .i64 2]) ∧ w = w' := by
  go_enter Try.func81, Try.ntmps81
  go_wp2
  go_ret2
  exact ⟨rfl, rfl⟩
theorem refCheck_any (p : Int) (w : World) (hp1 : -9223372036854775808 ≤ p) (hp2 : p ≤ 9223372036854775807) :
    Calls Try.prog 72 #[.int .i64 p] w fun e w' => e = .returned (.int .i64 (chkE p)) ∧ Below w.heap.size w w' := by
  by_cases hr : 2 ≤ p ∧ p ≤ 2000000000
  · obtain ⟨P, rfl⟩ : ∃ P : Nat, p = P := ⟨p.toNat, by omega⟩
    have h1 : 2 ≤ P := by omega
    have h2 : P ≤ 2000000000 := by omega
    clear hr hp1 hp2
    have e0 := okP_facs h1 h2
    have hl := toI_len (facs P)
    by_cases hb : (facs P).length = 1
    · rw [decide_eq_true hb] at e0
      have HE := Lib.hid (show chkE (P : Int) = 0 by unfold chkE; rw [e0]; rfl)
      have f1 : (((toI (facs P)).length : Int) != 1) = false := by rw [hl, hb]; rfl
      have HB := Lib.hid hb
      clear e0 hb hl
      go_enter Try.func72, Try.ntmps72
      go_wp2_with fail
      refine (refFactors_any P _ (by omega) h2).mono ?_
      rintro _ w1 ⟨A1, c1, rfl, r1, hb1⟩
      go_wp2
      go_ret
      exact ⟨ret_int HE.out.symm, hb1⟩
    · rw [decide_eq_false hb] at e0
      have HE := Lib.hid (show chkE (P : Int) = 2 by unfold chkE; rw [e0]; rfl)
      have f1 : (((toI (facs P)).length : Int) != 1) = true := by rw [hl, bne_iff_ne]; omega
      have HB := Lib.hid hb
      clear e0 hb hl
      go_enter Try.func72, Try.ntmps72
      go_wp2_with fail
      refine (refFactors_any P _ (by omega) h2).mono ?_
      rintro _ w1 ⟨A1, c1, rfl, r1, hb1⟩
      go_wp2
      go_ret
      exact ⟨ret_int HE.out.symm, hb1⟩
  · have HE := Lib.hid (show chkE p = 2 by unfold chkE; rw [okP_out hr]; rfl)
    rcases (show p < 2 ∨ (2 ≤ p ∧ 2000000000 < p) by omega) with h | ⟨h, h'⟩
    · clear hr
      go_enter Try.func72, Try.ntmps72
      go_wp2
      go_ret
      exact ⟨ret_int HE.out.symm, Below.refl _ _⟩
    · clear hr
      have hF := refFactorsOut_any p w h' hp2
      go_enter Try.func72, Try.ntmps72
      go_wp2_with fail
      refine (hF).mono ?_
      rintro _ w1 ⟨rfl, rfl⟩
      go_wp2
      go_ret
      exact ⟨ret_int HE.out.symm, Below.refl _ _⟩

theorem ok_cases (p : Int) : (chkE p = 0 ∧ okP p = true ∧ ∃ P : Nat, p = P ∧ 2 ≤ P ∧ P ≤ 2000000000 ∧ Pr P) ∨ (chkE p = 2 ∧ okP p = false) := by
  cases h : okP p
  · exact Or.inr ⟨by unfold chkE; rw [h]; rfl, rfl⟩
  · exact Or.inl ⟨by unfold chkE; rw [h]; rfl, rfl, okP_iff.1 h⟩

theorem element_any (p a : Int) (w : World) (hp1 : -9223372036854775808 ≤ p) (hp2 : p ≤ 9223372036854775807) :
    Calls Try.prog 69 #[.int .i64 p, .int .i64 a] w fun e w' => e = .returned (.int .i64 (bothE p a)) ∧ Below w.heap.size w w' := by
  rcases ok_cases p with ⟨e0, e1, P, rfl, h2, h3, hP⟩ | ⟨e0, e1⟩
  · have c0 : (chkE (P : Int) != 0) = false := by rw [e0]; rfl
    have HP := Lib.hid hP
    clear hP
    by_cases ha : a < 0 ∨ (P : Int) ≤ a
    · have HE := Lib.hid (show bothE (P : Int) a = 8 by unfold bothE; rw [if_pos e1, if_pos ha])
      rcases (show a < 0 ∨ (0 ≤ a ∧ (P : Int) ≤ a) by omega) with h | ⟨h, h'⟩
      · clear ha
        go_enter Try.func69, Try.ntmps69
        go_wp2_with fail
        refine (ringCheck_any _ _ (by omega) (by omega)).mono ?_
        rintro _ w1 ⟨rfl, hb1⟩
        go_wp2
        go_ret
        exact ⟨ret_int HE.out.symm, hb1⟩
      · clear ha
        go_enter Try.func69, Try.ntmps69
        go_wp2_with fail
        refine (ringCheck_any _ _ (by omega) (by omega)).mono ?_
        rintro _ w1 ⟨rfl, hb1⟩
        go_wp2
        go_ret
        exact ⟨ret_int HE.out.symm, hb1⟩
    · have HE := Lib.hid (show bothE (P : Int) a = 0 by unfold bothE; rw [if_pos e1, if_neg ha])
      have g1 : 0 ≤ a := by omega
      have g2 : a < P := by omega
      clear ha
      go_enter Try.func69, Try.ntmps69
      go_wp2_with fail
      refine (ringCheck_any _ _ (by omega) (by omega)).mono ?_
      rintro _ w1 ⟨rfl, hb1⟩
      go_wp2
      go_ret
      exact ⟨ret_int HE.out.symm, hb1⟩
  · have HE := Lib.hid (show bothE p a = chkE p by unfold bothE chkE; rw [e1]; rfl)
    have c0 : (chkE p != 0) = true := by rw [e0]; rfl
    have HC := Lib.hid e0
    clear e0
    go_enter Try.func69, Try.ntmps69
    go_wp2_with fail
    refine (ringCheck_any _ _ hp1 hp2).mono ?_
    rintro _ w1 ⟨rfl, hb1⟩
    go_wp2
    go_ret
    first
      | exact ⟨ret_int HE.out.symm, hb1⟩
      | exact ⟨ret_int (HE.out.trans HC.out).symm, hb1⟩
theorem refBoth_any (p a : Int) (w : World) (hp1 : -9223372036854775808 ≤ p) (hp2 : p ≤ 9223372036854775807) :
    Calls Try.prog 76 #[.int .i64 p, .int .i64 a] w fun e w' => e = .returned (.int .i64 (bothE p a)) ∧ Below w.heap.size w w' := by
  rcases ok_cases p with ⟨e0, e1, P, rfl, h2, h3, hP⟩ | ⟨e0, e1⟩
  · have c0 : (chkE (P : Int) != 0) = false := by rw [e0]; rfl
    have HP := Lib.hid hP
    clear hP
    by_cases ha : a < 0 ∨ (P : Int) ≤ a
    · have HE := Lib.hid (show bothE (P : Int) a = 8 by unfold bothE; rw [if_pos e1, if_pos ha])
      rcases (show a < 0 ∨ (0 ≤ a ∧ (P : Int) ≤ a) by omega) with h | ⟨h, h'⟩
      · clear ha
        go_enter Try.func76, Try.ntmps76
        go_wp2_with fail
        refine (refCheck_any _ _ (by omega) (by omega)).mono ?_
        rintro _ w1 ⟨rfl, hb1⟩
        go_wp2
        go_ret
        exact ⟨ret_int HE.out.symm, hb1⟩
      · clear ha
        go_enter Try.func76, Try.ntmps76
        go_wp2_with fail
        refine (refCheck_any _ _ (by omega) (by omega)).mono ?_
        rintro _ w1 ⟨rfl, hb1⟩
        go_wp2
        go_ret
        exact ⟨ret_int HE.out.symm, hb1⟩
    · have HE := Lib.hid (show bothE (P : Int) a = 0 by unfold bothE; rw [if_pos e1, if_neg ha])
      have g1 : 0 ≤ a := by omega
      have g2 : a < P := by omega
      clear ha
      go_enter Try.func76, Try.ntmps76
      go_wp2_with fail
      refine (refCheck_any _ _ (by omega) (by omega)).mono ?_
      rintro _ w1 ⟨rfl, hb1⟩
      go_wp2
      go_ret
      exact ⟨ret_int HE.out.symm, hb1⟩
  · have HE := Lib.hid (show bothE p a = chkE p by unfold bothE chkE; rw [e1]; rfl)
    have c0 : (chkE p != 0) = true := by rw [e0]; rfl
    have HC := Lib.hid e0
    clear e0
    go_enter Try.func76, Try.ntmps76
    go_wp2_with fail
    refine (refCheck_any _ _ hp1 hp2).mono ?_
    rintro _ w1 ⟨rfl, hb1⟩
    go_wp2
    go_ret
    first
      | exact ⟨ret_int HE.out.symm, hb1⟩
      | exact ⟨ret_int (HE.out.trans HC.out).symm, hb1⟩
end Go.Proofs.Ytnhjeelcgfobnaa
namespace Go.Proofs.Ytnhjeelcgfobnaa
open Go.RowKit Num
set_option maxRecDepth 8000
set_option linter.unusedVariables false

def RetV (w : World) (r : Int × Int) (e : Ending) (w' : World) : Prop := e = .returned (.tuple #[.int .i64 r.1, .int .i64 r.2]) ∧ Below w.heap.size w w'
theorem RetV.mk {w w' : World} {x y : Int} {r : Int × Int} (hr : r = (x, y)) (hb : Below w.heap.size w w') : RetV w r (.returned (.tuple #[.int .i64 x, .int .i64 y])) w' := by
  subst hr; exact ⟨rfl, hb⟩
theorem both_cases (p a : Int) : (bothE p a = 0 ∧ ∃ P A : Nat, p = P ∧ a = A ∧ 2 ≤ P ∧ P ≤ 2000000000 ∧ Pr P ∧ A < P) ∨ (bothE p a = 2 ∨ bothE p a = 8) := by
  rcases ok_cases p with ⟨e0, e1, P, rfl, h2, h3, hP⟩ | ⟨e0, e1⟩
  · by_cases ha : a < 0 ∨ (P : Int) ≤ a
    · right; right; unfold bothE; rw [if_pos e1, if_pos ha]
    · left
      exact ⟨by unfold bothE; rw [if_pos e1, if_neg ha], P, a.toNat, rfl, by omega, h2, h3, hP, by omega⟩
  · right; left; unfold bothE; rw [e1]; rfl
noncomputable def powS (p a n : Int) : Int × Int := if bothE p a = 0 then (if n < 0 then (0, 2) else (((a.toNat ^ n.toNat % p.toNat : Nat) : Int), 0)) else (0, bothE p a)
noncomputable def invS (p a : Int) : Int × Int := if bothE p a = 0 then (if a = 0 then (0, 18) else (((a.toNat ^ (p.toNat - 2) % p.toNat : Nat) : Int), 0)) else (0, bothE p a)

theorem ringInv_any (p a : Int) (w : World) (hp1 : -9223372036854775808 ≤ p) (hp2 : p ≤ 9223372036854775807) :
    Calls Try.prog 54 #[.int .i64 p, .int .i64 a] w (RetV w (invS p a)) := by
  rcases both_cases p a with ⟨e0, P, A, rfl, rfl, h2, h3, hP, hA⟩ | e0
  · have c0 : (bothE (P : Int) (A : Int) != 0) = false := by rw [e0]; rfl
    have HP := Lib.hid hP
    have HE := Lib.hid e0
    clear hP e0
    by_cases hn : A = 0
    · have HS := Lib.hid (show invS P A = (0, 18) by unfold invS; rw [if_pos HE.out, if_pos (by omega)])
      have c1 : ((A : Int) == 0) = true := by rw [hn]; rfl
      clear hn
      go_enter Try.func54, Try.ntmps54
      go_wp2_with fail
      refine (element_any _ _ _ (by omega) (by omega)).mono ?_
      rintro _ w1 ⟨rfl, hb1⟩
      go_wp2
      go_ret2
      exact RetV.mk HS.out hb1
    · have HS := Lib.hid (show invS P A = (((A ^ (P - 2) % P : Nat) : Int), 0) by unfold invS; rw [if_pos HE.out, if_neg (by omega)]; rfl)
      have c1 : ((A : Int) == 0) = false := by rw [beq_eq_false_iff_ne]; omega
      have g1 : IntKind.i64.wrap ((P : Int) - 2) = ((P - 2 : Nat) : Int) := by rw [IntWalk.i64_in _ (by omega)]; omega
      clear hn
      go_enter Try.func54, Try.ntmps54
      go_wp2_with fail
      refine (element_any _ _ _ (by omega) (by omega)).mono ?_
      rintro _ w1 ⟨rfl, hb1⟩
      (go_wp2_with fail; refine (power_any P A (P - 2) _ h2 h3 (by omega) (by omega)).mono ?_; rintro _ w2 ⟨rfl, hb2'⟩; have hb2 := bstep hb1 hb2')
      go_wp2
      go_ret2
      exact RetV.mk HS.out hb2
  · have c0 : (bothE p a != 0) = true := by rw [bne_iff_ne]; omega
    have HS := Lib.hid (show invS p a = (0, bothE p a) by unfold invS; rw [if_neg (by omega)])
    clear e0
    go_enter Try.func54, Try.ntmps54
    go_wp2_with fail
    refine (element_any _ _ _ hp1 hp2).mono ?_
    rintro _ w1 ⟨rfl, hb1⟩
    first
      | (go_wp2; go_ret2; exact RetV.mk HS.out hb1)
      | (go_wp2_with fail; refine (element_any _ _ _ hp1 hp2).mono ?_; rintro _ w2 ⟨rfl, hb2⟩; go_wp2; go_ret2; exact RetV.mk HS.out (bstep hb1 hb2))
theorem refInv_any (p a : Int) (w : World) (hp1 : -9223372036854775808 ≤ p) (hp2 : p ≤ 9223372036854775807) :
    Calls Try.prog 66 #[.int .i64 p, .int .i64 a] w (RetV w (invS p a)) := by
  rcases both_cases p a with ⟨e0, P, A, rfl, rfl, h2, h3, hP, hA⟩ | e0
  · have c0 : (bothE (P : Int) (A : Int) != 0) = false := by rw [e0]; rfl
    have HP := Lib.hid hP
    have HE := Lib.hid e0
    clear hP e0
    by_cases hn : A = 0
    · have HS := Lib.hid (show invS P A = (0, 18) by unfold invS; rw [if_pos HE.out, if_pos (by omega)])
      have c1 : ((A : Int) == 0) = true := by rw [hn]; rfl
      clear hn
      go_enter Try.func66, Try.ntmps66
      go_wp2_with fail
      refine (refBoth_any _ _ _ (by omega) (by omega)).mono ?_
      rintro _ w1 ⟨rfl, hb1⟩
      go_wp2
      go_ret2
      exact RetV.mk HS.out hb1
    · have HS := Lib.hid (show invS P A = (((A ^ (P - 2) % P : Nat) : Int), 0) by unfold invS; rw [if_pos HE.out, if_neg (by omega)]; rfl)
      have c1 : ((A : Int) == 0) = false := by rw [beq_eq_false_iff_ne]; omega
      have g1 : IntKind.i64.wrap ((P : Int) - 2) = ((P - 2 : Nat) : Int) := by rw [IntWalk.i64_in _ (by omega)]; omega
      clear hn
      go_enter Try.func66, Try.ntmps66
      go_wp2_with fail
      refine (refBoth_any _ _ _ (by omega) (by omega)).mono ?_
      rintro _ w1 ⟨rfl, hb1⟩
      (go_wp2_with fail; refine (refPower_any P A (P - 2) _ h2 h3 (by omega) (by omega)).mono ?_; rintro _ w2 ⟨rfl, rfl⟩; have hb2 := hb1)
      go_wp2
      go_ret2
      exact RetV.mk HS.out hb2
  · have c0 : (bothE p a != 0) = true := by rw [bne_iff_ne]; omega
    have HS := Lib.hid (show invS p a = (0, bothE p a) by unfold invS; rw [if_neg (by omega)])
    clear e0
    go_enter Try.func66, Try.ntmps66
    go_wp2_with fail
    refine (refBoth_any _ _ _ hp1 hp2).mono ?_
    rintro _ w1 ⟨rfl, hb1⟩
    first
      | (go_wp2; go_ret2; exact RetV.mk HS.out hb1)
      | (go_wp2_with fail; refine (refBoth_any _ _ _ hp1 hp2).mono ?_; rintro _ w2 ⟨rfl, hb2⟩; go_wp2; go_ret2; exact RetV.mk HS.out (bstep hb1 hb2))

noncomputable def facS (n : Int) : List Int × Int := if 1 ≤ n ∧ n ≤ 2000000000 then (toI (facs n.toNat), 0) else ([], 2)
theorem facS_in {N : Nat} (h1 : 1 ≤ N) (h2 : N ≤ 2000000000) : facS (N : Int) = (toI (facs N), 0) := by
  unfold facS; rw [if_pos (by omega), Int.toNat_natCast]
theorem facS_out {n : Int} (h : ¬ (1 ≤ n ∧ n ≤ 2000000000)) : facS n = ([], 2) := by unfold facS; rw [if_neg h]
theorem RetFE.nil {w w' : World} {r : List Int × Int} (hr : r = ([], 2)) (hb : Below w.heap.size w w') : RetFE w r (.returned (.tuple #[.slice none 0 0, .int .i64 2])) w' := by
  subst hr; exact ⟨none, 0, rfl, RI.nil, hb⟩
theorem refFacs_any (n : Int) (w : World) (hp1 : -9223372036854775808 ≤ n) (hp2 : n ≤ 9223372036854775807) :
    Calls Try.prog 81 #[.int .i64 n] w (RetFE w (facS n)) := by
  by_cases h : 1 ≤ n ∧ n ≤ 2000000000
  · obtain ⟨N, rfl⟩ : ∃ N : Nat, n = N := ⟨n.toNat, by omega⟩
    rw [facS_in (by omega) (by omega)]
    exact refFactors_any N w (by omega) (by omega)
  · have HS := Lib.hid (facS_out h)
    rcases (show n < 1 ∨ (1 ≤ n ∧ 2000000000 < n) by omega) with h' | ⟨h', h''⟩
    · clear h
      go_enter Try.func81, Try.ntmps81
      go_wp2
      go_ret2
      exact RetFE.nil HS.out (Below.refl _ _)
    · clear h
      go_enter Try.func81, Try.ntmps81
      go_wp2
      go_ret2
      exact RetFE.nil HS.out (Below.refl _ _)
end Go.Proofs.Ytnhjeelcgfobnaa
