/-
  Contracts: ring.factors, fringeref10.Factors, ring.Factors: the prime factors in order.
-/
import Derived.Test.YtnngkghmhbcgeaaRingB
import Derived.Test.YtnngkghmhbcgeaaRets
import Derived.Test.YtnngkghmhbcgeaaNumG
import Derived.OwnWalk
import Derived.Laws.AppendOwnNone
namespace Go.Proofs.Ytnngkghmhbcgeaa
open Go.RowKit Num
set_option linter.unusedVariables false

def toI (l : List Nat) : List Int := l.map (fun x : Nat => (x : Int))
theorem toI_len (l : List Nat) : (toI l).length = l.length := by simp [toI]
theorem toI_snoc (l : List Nat) (x : Nat) : toI (l ++ [x]) = toI l ++ [(x : Int)] := by simp [toI]
theorem toI_at (l : List Nat) {i : Nat} (h : i < l.length) : (toI l).getD i 0 = (l.getD i 0 : Int) := by
  rw [getD_lt _ _ (by rw [toI_len]; exact h), getD_lt _ _ h]; simp [toI]
theorem info_int64 : ∃ i, Try.prog.info? 2 = some i ∧ i.zero = some (.int .i64 0) ∧ i.size = 1 ∧ i.bytes = 8 := by
  refine ⟨_, rfl, ?_⟩
  exact ⟨rfl, rfl, rfl⟩

theorem quo_wrap {m q : Nat} (h : m ≤ 2000000000) : wrap64 ((m : Int) / (q : Int)) = ((m / q : Nat) : Int) := by
  have h1 : m / q ≤ m := Nat.div_le_self m q
  have h2 : ((m / q : Nat) : Int) ≤ 2000000000 := by omega
  have h3 : 0 ≤ ((m / q : Nat) : Int) := Int.natCast_nonneg _
  rw [← Int.natCast_ediv]
  exact IntWalk.wrap64_in _ ⟨by omega, by omega⟩

def RetF (w : World) (l : List Int) (e : Ending) (w' : World) : Prop :=
  ∃ A c, e = .returned (.slice A l.length c) ∧ RI .i64 w' A l ∧ Below w.heap.size w w'
def RetFE (w : World) (r : List Int × Int) (e : Ending) (w' : World) : Prop :=
  ∃ A c, e = .returned (.tuple #[.slice A r.1.length c, .int .i64 r.2]) ∧ RI .i64 w' A r.1 ∧ Below w.heap.size w w'


set_option maxHeartbeats 2000000 in
theorem refFactors_any (n : Nat) (w : World) (h1 : 1 ≤ n) (hn : n ≤ 2000000000) :
    Calls Try.prog 17 #[.int .i64 n] w (RetFE w (toI (facs n), 0)) := by
  obtain ⟨i0, hi0, hz0, hz1, hz2⟩ := info_int64
  go_enter Try.func17, Try.ntmps17
  go_wp2
  go_loopg [4, 5, 0] 49998 (fun gk a b c wr => ∃ (v : Value) (q m : Nat) (acc : List Nat), q + gk = 50000 ∧ a = v ∧ b = .int .i64 q ∧ c = .int .i64 m ∧ 2 ≤ q ∧ q ≤ 44722 ∧ Hid (TD n q m acc) ∧ wr.ownsRow w.heap.size 2 1 v acc.length ((toI acc).flatMap (encI .i64)) ∧ Below w.heap.size w wr)
  case atStart => exact ⟨_, 2, n, [], by omega, rfl, rfl, rfl, by omega, by omega, Lib.hid (TD.start h1), World.ownsRow_nil _ _ _ _, Below.refl _ _⟩
  case round =>
    obtain ⟨v, q, m, acc, hg, rfl, rfl, rfl, h2, hq2, HT, hO, hb⟩ := hrel
    have HG := Lib.hid hg
    clear hg
    have hsz := hb.size
    have hmn := HT.out.m_le
    have hm1 := HT.out.pos
    have f1 := mul_wrap (x := q) (y := q) (by omega) (by omega)
    by_cases hlt : q * q ≤ m
    · have hq3 : q ≤ 44721 := by
        apply Classical.byContradiction
        intro hc
        have := Nat.mul_le_mul (show 44722 ≤ q by omega) (show 44722 ≤ q by omega)
        omega
      obtain ⟨gu, hgu⟩ : ∃ gu, gu = gk := ⟨gk, rfl⟩
      have HGU := Lib.hid hgu
      clear hgu
      have d1 : decide (q * q ≤ m) = true := decide_eq_true hlt
      have d2 : decide (((q * q : Nat) : Int) ≤ (m : Int)) = true := decide_eq_true (by omega)
      rw [Int.natCast_mul] at f1 d2
      go_wp2
      clear d1 d2 f1
      go_loopg [4, 0] m (fun gk a c wr => ∃ (v : Value) (m : Nat) (acc : List Nat), m = gk ∧ a = v ∧ c = .int .i64 m ∧ Hid (TD n q m acc) ∧ wr.ownsRow w.heap.size 2 1 v acc.length ((toI acc).flatMap (encI .i64)) ∧ Below w.heap.size w wr)
      case atStart => exact ⟨_, m, acc, rfl, rfl, rfl, HT, hO, hb⟩
      case round =>
        obtain ⟨v', m', acc', hm, rfl, rfl, HT', hO', hb'⟩ := hrel
        have HM := Lib.hid hm
        clear hm
        have hsz' := hb'.size
        have hmn' := HT'.out.m_le
        have hm1' := HT'.out.pos
        have hlen := len_lt HT'.out.prs HT'.out.acc_le (by omega)
        by_cases hdv : m' % q = 0
        · have f1 : (((m' % q : Nat) : Int) == 0) = true := by rw [hdv]; rfl
          have f2 : wrap64 ((m' : Int) / (q : Int)) = ((m' / q : Nat) : Int) := quo_wrap (by omega)
          have hlt2 : m' / q < m' := Nat.div_lt_self (by omega) (by omega)
          go_wp2_with (at_builtin; refine wpList_append_own _ rfl _ _ 32 rfl w.heap.size 2 i0 _ 1 8 Try.underlying32 hi0 hz0 hz1 hz2 rfl (by decide) _ acc'.length _ rfl (hO'.alloc _) ⟨wr.heap.size, 0, none⟩ 1 1 (encI .i64 (q : Int)) rfl rfl (encI_news _ _ _ _) (encI_one _ _) (by unfold maxLen; omega) (by omega) (by simp; omega) ?_; intro v2 w2 hown2 hgrow2 _)
          go_roundg (m' / q)
          case rel => exact ⟨_, m' / q, acc' ++ [q], rfl, rfl, congrArg (Value.int .i64) f2, Lib.hid (HT'.out.take h2 hdv), by rw [toI_snoc, flat_snoc, List.length_append]; exact hown2, own_below (hb'.alloc hsz' _) (hO'.alloc _) hgrow2 (Nat.le_refl _) (by simp; omega)⟩
          case measure => have := HM.out; omega
        · have f1 : (((m' % q : Nat) : Int) == 0) = false := by rw [beq_eq_false_iff_ne]; omega
          have HD := Lib.hid hdv
          clear hdv
          go_wp2
          go_roundg (gu - 1)
          case rel => exact ⟨_, q + 1, m', acc', by have := HG.out; have := HGU.out; omega, rfl, by go_num, rfl, by omega, by omega, Lib.hid (HT'.out.next HD.out), hO', hb'⟩
          case measure => have := HG.out; have := HGU.out; omega
    · have d1 : decide (q * q ≤ m) = false := decide_eq_false hlt
      have d2 : decide (((q * q : Nat) : Int) ≤ (m : Int)) = false := decide_eq_false (by omega)
      rw [Int.natCast_mul] at f1 d2
      have hlen := len_lt HT.out.prs HT.out.acc_le (by omega)
      by_cases hm2 : 1 < m
      · have hF := facs_eq (HT.out.last (by omega) hm2)
        have HF := Lib.hid hF
        clear hF
        go_wp2_with (at_builtin; refine wpList_append_own _ rfl _ _ 32 rfl w.heap.size 2 i0 _ 1 8 Try.underlying32 hi0 hz0 hz1 hz2 rfl (by decide) _ acc.length _ rfl (hO.alloc _) ⟨wr.heap.size, 0, none⟩ 1 1 (encI .i64 (m : Int)) rfl rfl (encI_news _ _ _ _) (encI_one _ _) (by unfold maxLen; omega) (by omega) (by simp; omega) ?_; intro v2 w2 hown2 hgrow2 _; obtain ⟨A8, c8, rfl, hc8⟩ := own_shape' hown2)
        have hl9 : (toI (facs n)).length = acc.length + 1 := by rw [toI_len, HF.out]; simp
        have hown : w2.ownsRow w.heap.size 2 1 (.slice A8 (acc.length + 1) c8) (acc.length + 1) ((toI (facs n)).flatMap (encI .i64)) := by
          rw [HF.out, toI_snoc, flat_snoc]; exact hown2
        have hb2 := own_below (hb.alloc hsz _) (hO.alloc _) hgrow2 (Nat.le_refl _) (by simp; omega)
        (go_ret2; exact ⟨A8, c8, by (rw [hl9]; rfl), own_RI_at hl9 hown, hb2⟩)
      · have hF := facs_eq (HT.out.done hm2)
        have HF := Lib.hid hF
        clear hF
        have e1 : decide (1 < m) = false := decide_eq_false hm2
        have e2 : decide ((1 : Int) < (m : Int)) = false := decide_eq_false (by omega)
        obtain ⟨A8, c8, rfl, hc8⟩ := own_shape' hO
        have hl9 : (toI (facs n)).length = acc.length := by rw [toI_len, HF.out]
        have hown : wr.ownsRow w.heap.size 2 1 (.slice A8 acc.length c8) acc.length ((toI (facs n)).flatMap (encI .i64)) := by
          rw [HF.out]; exact hO
        (go_wp2; go_ret2; exact ⟨A8, c8, by (rw [hl9]; rfl), own_RI_at hl9 hown, hb⟩)

set_option maxHeartbeats 2000000 in
theorem factors_any (n : Nat) (w : World) (h1 : 1 ≤ n) (hn : n ≤ 2000000000) :
    Calls Try.prog 32 #[.int .i64 n] w (RetF w (toI (facs n))) := by
  obtain ⟨i0, hi0, hz0, hz1, hz2⟩ := info_int64
  go_enter Try.func32, Try.ntmps32
  go_wp2
  go_loopg [3, 4, 0] 49998 (fun gk a b c wr => ∃ (v : Value) (q m : Nat) (acc : List Nat), q + gk = 50000 ∧ a = v ∧ b = .int .i64 q ∧ c = .int .i64 m ∧ 2 ≤ q ∧ q ≤ 44722 ∧ Hid (TD n q m acc) ∧ wr.ownsRow w.heap.size 2 1 v acc.length ((toI acc).flatMap (encI .i64)) ∧ Below w.heap.size w wr)
  case atStart => exact ⟨_, 2, n, [], by omega, rfl, rfl, rfl, by omega, by omega, Lib.hid (TD.start h1), World.ownsRow_nil _ _ _ _, Below.refl _ _⟩
  case round =>
    obtain ⟨v, q, m, acc, hg, rfl, rfl, rfl, h2, hq2, HT, hO, hb⟩ := hrel
    have HG := Lib.hid hg
    clear hg
    have hsz := hb.size
    have hmn := HT.out.m_le
    have hm1 := HT.out.pos
    have f1 := mul_wrap (x := q) (y := q) (by omega) (by omega)
    by_cases hlt : q * q ≤ m
    · have hq3 : q ≤ 44721 := by
        apply Classical.byContradiction
        intro hc
        have := Nat.mul_le_mul (show 44722 ≤ q by omega) (show 44722 ≤ q by omega)
        omega
      obtain ⟨gu, hgu⟩ : ∃ gu, gu = gk := ⟨gk, rfl⟩
      have HGU := Lib.hid hgu
      clear hgu
      have d1 : decide (q * q ≤ m) = true := decide_eq_true hlt
      have d2 : decide (((q * q : Nat) : Int) ≤ (m : Int)) = true := decide_eq_true (by omega)
      rw [Int.natCast_mul] at f1 d2
      go_wp2
      clear d1 d2 f1
      go_loopg [3, 0] m (fun gk a c wr => ∃ (v : Value) (m : Nat) (acc : List Nat), m = gk ∧ a = v ∧ c = .int .i64 m ∧ Hid (TD n q m acc) ∧ wr.ownsRow w.heap.size 2 1 v acc.length ((toI acc).flatMap (encI .i64)) ∧ Below w.heap.size w wr)
      case atStart => exact ⟨_, m, acc, rfl, rfl, rfl, HT, hO, hb⟩
      case round =>
        obtain ⟨v', m', acc', hm, rfl, rfl, HT', hO', hb'⟩ := hrel
        have HM := Lib.hid hm
        clear hm
        have hsz' := hb'.size
        have hmn' := HT'.out.m_le
        have hm1' := HT'.out.pos
        have hlen := len_lt HT'.out.prs HT'.out.acc_le (by omega)
        by_cases hdv : m' % q = 0
        · have f1 : (((m' % q : Nat) : Int) == 0) = true := by rw [hdv]; rfl
          have f2 : wrap64 ((m' : Int) / (q : Int)) = ((m' / q : Nat) : Int) := quo_wrap (by omega)
          have hlt2 : m' / q < m' := Nat.div_lt_self (by omega) (by omega)
          go_wp2_with (at_builtin; refine wpList_append_own _ rfl _ _ 32 rfl w.heap.size 2 i0 _ 1 8 Try.underlying32 hi0 hz0 hz1 hz2 rfl (by decide) _ acc'.length _ rfl (hO'.alloc _) ⟨wr.heap.size, 0, none⟩ 1 1 (encI .i64 (q : Int)) rfl rfl (encI_news _ _ _ _) (encI_one _ _) (by unfold maxLen; omega) (by omega) (by simp; omega) ?_; intro v2 w2 hown2 hgrow2 _)
          go_roundg (m' / q)
          case rel => exact ⟨_, m' / q, acc' ++ [q], rfl, rfl, congrArg (Value.int .i64) f2, Lib.hid (HT'.out.take h2 hdv), by rw [toI_snoc, flat_snoc, List.length_append]; exact hown2, own_below (hb'.alloc hsz' _) (hO'.alloc _) hgrow2 (Nat.le_refl _) (by simp; omega)⟩
          case measure => have := HM.out; omega
        · have f1 : (((m' % q : Nat) : Int) == 0) = false := by rw [beq_eq_false_iff_ne]; omega
          have HD := Lib.hid hdv
          clear hdv
          go_wp2
          go_roundg (gu - 1)
          case rel => exact ⟨_, q + 1, m', acc', by have := HG.out; have := HGU.out; omega, rfl, by go_num, rfl, by omega, by omega, Lib.hid (HT'.out.next HD.out), hO', hb'⟩
          case measure => have := HG.out; have := HGU.out; omega
    · have d1 : decide (q * q ≤ m) = false := decide_eq_false hlt
      have d2 : decide (((q * q : Nat) : Int) ≤ (m : Int)) = false := decide_eq_false (by omega)
      rw [Int.natCast_mul] at f1 d2
      have hlen := len_lt HT.out.prs HT.out.acc_le (by omega)
      by_cases hm2 : 1 < m
      · have hF := facs_eq (HT.out.last (by omega) hm2)
        have HF := Lib.hid hF
        clear hF
        go_wp2_with (at_builtin; refine wpList_append_own _ rfl _ _ 32 rfl w.heap.size 2 i0 _ 1 8 Try.underlying32 hi0 hz0 hz1 hz2 rfl (by decide) _ acc.length _ rfl (hO.alloc _) ⟨wr.heap.size, 0, none⟩ 1 1 (encI .i64 (m : Int)) rfl rfl (encI_news _ _ _ _) (encI_one _ _) (by unfold maxLen; omega) (by omega) (by simp; omega) ?_; intro v2 w2 hown2 hgrow2 _; obtain ⟨A8, c8, rfl, hc8⟩ := own_shape' hown2)
        have hl9 : (toI (facs n)).length = acc.length + 1 := by rw [toI_len, HF.out]; simp
        have hown : w2.ownsRow w.heap.size 2 1 (.slice A8 (acc.length + 1) c8) (acc.length + 1) ((toI (facs n)).flatMap (encI .i64)) := by
          rw [HF.out, toI_snoc, flat_snoc]; exact hown2
        have hb2 := own_below (hb.alloc hsz _) (hO.alloc _) hgrow2 (Nat.le_refl _) (by simp; omega)
        (go_ret; exact ⟨A8, acc.length + 1, by (rw [hl9]; rfl), own_RI_at hl9 hown, hb2⟩)
      · have hF := facs_eq (HT.out.done hm2)
        have HF := Lib.hid hF
        clear hF
        have e1 : decide (1 < m) = false := decide_eq_false hm2
        have e2 : decide ((1 : Int) < (m : Int)) = false := decide_eq_false (by omega)
        obtain ⟨A8, c8, rfl, hc8⟩ := own_shape' hO
        have hl9 : (toI (facs n)).length = acc.length := by rw [toI_len, HF.out]
        have hown : wr.ownsRow w.heap.size 2 1 (.slice A8 acc.length c8) acc.length ((toI (facs n)).flatMap (encI .i64)) := by
          rw [HF.out]; exact hO
        (go_wp2; go_ret; exact ⟨A8, acc.length, by (rw [hl9]; rfl), own_RI_at hl9 hown, hb⟩)
end Go.Proofs.Ytnngkghmhbcgeaa
