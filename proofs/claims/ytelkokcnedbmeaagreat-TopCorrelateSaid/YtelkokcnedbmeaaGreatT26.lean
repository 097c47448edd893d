/-
  Parts of the proof of TopCorrelate: NumG RingC RingD RingE.
-/
import Derived.Test.YtelkokcnedbmeaaGreatT25
import Derived.Test.YtelkokcnedbmeaaGreatT01
import Derived.OwnWalk
import Derived.Laws.AppendOwnNone
import Derived.Deep.RegionHeld3
namespace Go.Proofs.YtelkokcnedbmeaaGreat.Num
set_option maxRecDepth 20000
def FacOf (n : Nat) (l : List Nat) : Prop := mulAll l = n ∧ (∀ x ∈ l, Pr x) ∧ l.Pairwise (· ≤ ·)
theorem mulAll_append (a b : List Nat) : mulAll (a ++ b) = mulAll a * mulAll b := by
 induction a with
 | nil => show mulAll b = 1 * mulAll b; rw [Nat.one_mul]
 | cons x t ih => show x * mulAll (t ++ b) = x * mulAll t * mulAll b; rw [ih, Nat.mul_assoc]
theorem mulAll_pos {l : List Nat} (h : ∀ x ∈ l, Pr x) : 1 ≤ mulAll l := by
 induction l with
 | nil => exact Nat.le_refl 1
 | cons x t ih =>
  have h1 := (h x List.mem_cons_self).1
  have h2 := ih (fun y hy => h y (List.mem_cons_of_mem _ hy))
  show 1 ≤ x * mulAll t
  have := Nat.mul_le_mul h1 h2
  omega
theorem dvd_mulAll {x : Nat} {l : List Nat} (h : x ∈ l) : x ∣ mulAll l := by
 induction l with
 | nil => exact absurd h (List.not_mem_nil)
 | cons y t ih =>
  rcases List.mem_cons.1 h with rfl | h
  ·exact ⟨_, rfl⟩
  ·exact Nat.dvd_trans (ih h) ⟨y, by show y * mulAll t = _; rw [Nat.mul_comm]⟩
theorem Pr.mem_of_dvd {x : Nat} {l : List Nat} (hx : Pr x) (hl : ∀ y ∈ l, Pr y) (h : x ∣ mulAll l) : x ∈ l := by
 obtain ⟨y, hy, hd⟩ := hx.dvd_mulAll h
 rw [hx.eq_of_dvd (hl y hy) hd]; exact hy
theorem fac_unique {n : Nat} {l l' : List Nat} (h : FacOf n l) (h' : FacOf n l') : l = l' := by
 induction l generalizing n l' with
 | nil =>
  cases l' with
  | nil => rfl
  | cons y t =>
   exfalso
   have hy := (h'.2.1 y List.mem_cons_self).1
   have h1 : mulAll (y :: t) = 1 := h'.1.trans h.1.symm
   have h2 := mulAll_pos (fun z hz => h'.2.1 z (List.mem_cons_of_mem y hz))
   have h3 : y * mulAll t = 1 := h1
   have := Nat.mul_le_mul hy h2
   omega
 | cons a t ih =>
  cases l' with
  | nil =>
   exfalso
   have hy := (h.2.1 a List.mem_cons_self).1
   have h1 : mulAll (a :: t) = 1 := h.1.trans h'.1.symm
   have h2 := mulAll_pos (fun z hz => h.2.1 z (List.mem_cons_of_mem a hz))
   have h3 : a * mulAll t = 1 := h1
   have := Nat.mul_le_mul hy h2
   omega
  | cons b t' =>
   have ha : Pr a := h.2.1 a List.mem_cons_self
   have hb : Pr b := h'.2.1 b List.mem_cons_self
   have m1 : a ∈ b :: t' := ha.mem_of_dvd h'.2.1 (by rw [h'.1, ← h.1]; exact dvd_mulAll List.mem_cons_self)
   have m2 : b ∈ a :: t := hb.mem_of_dvd h.2.1 (by rw [h.1, ← h'.1]; exact dvd_mulAll List.mem_cons_self)
   have s1 := List.pairwise_cons.1 h.2.2
   have s2 := List.pairwise_cons.1 h'.2.2
   have hab : a = b := by
    rcases List.mem_cons.1 m1 with e | e
    ·exact e
    ·rcases List.mem_cons.1 m2 with e2 | e2
     ·exact e2.symm
     ·have := s2.1 a e; have := s1.1 b e2; omega
   subst hab
   have hm : mulAll t = mulAll t' := by
    have : a * mulAll t = a * mulAll t' := h.1.trans h'.1.symm
    exact Nat.eq_of_mul_eq_mul_left (by have := ha.1; omega) this
   rw [ih ⟨hm, fun x hx => h.2.1 x (List.mem_cons_of_mem _ hx), s1.2⟩ ⟨rfl, fun x hx => h'.2.1 x (List.mem_cons_of_mem _ hx), s2.2⟩]
theorem fac_exists {n : Nat} (h : 1 ≤ n) : ∃ l, FacOf n l := by
 induction n using Nat.strongRecOn with
 | ind n ih =>
  by_cases h1 : n = 1
  ·subst h1; exact ⟨[], rfl, by intro x hx; exact absurd hx (List.not_mem_nil), List.Pairwise.nil⟩
  ·obtain ⟨p, hp, ⟨c, hc⟩, hmin⟩ := exists_least (n := n) (by omega)
   have hp2 := hp.1
   have hc0 : 0 < c := by rcases Nat.eq_zero_or_pos c with rfl | h0; omega; exact h0
   have hlt : c < n := by
    have := Nat.mul_le_mul hp2 (Nat.le_refl c)
    omega
   obtain ⟨l, h2, h3, h4⟩ := ih c hlt hc0
   refine ⟨p :: l, by show p * mulAll l = n; rw [h2, hc], ?_, ?_⟩
   ·intro x hx
    rcases List.mem_cons.1 hx with rfl | hx
    ·exact hp
    ·exact h3 x hx
   ·refine List.pairwise_cons.2 ⟨fun x hx => hmin x (h3 x hx) ?_, h4⟩
    rw [hc, ← h2]
    exact Nat.dvd_trans (dvd_mulAll hx) ⟨p, by rw [Nat.mul_comm]⟩
noncomputable def facs (n : Nat) : List Nat := @dite _ (∃ l, FacOf n l) (Classical.propDecidable _) (fun h => Classical.choose h) (fun _ => [])
theorem facs_of {n : Nat} (h : 1 ≤ n) : FacOf n (facs n) := by
 have h1 := fac_exists h
 unfold facs
 rw [dif_pos h1]
 exact Classical.choose_spec h1
theorem facs_eq {n : Nat} {l : List Nat} (h : FacOf n l) : facs n = l :=
 fac_unique (facs_of (by rw [← h.1]; exact mulAll_pos h.2.1)) h
theorem two_pow_len {l : List Nat} (h : ∀ x ∈ l, Pr x) : 2 ^ l.length ≤ mulAll l := by
 induction l with
 | nil => exact Nat.le_refl 1
 | cons x t ih =>
  have h1 := (h x List.mem_cons_self).1
  have h2 := ih (fun y hy => h y (List.mem_cons_of_mem _ hy))
  show 2 ^ (t.length + 1) ≤ x * mulAll t
  rw [Nat.pow_succ, Nat.mul_comm]
  exact Nat.mul_le_mul h1 h2
theorem len_lt {l : List Nat} {n : Nat} (h : ∀ x ∈ l, Pr x) (hn : mulAll l ≤ n) (h2 : n < 4294967296) : l.length < 32 := by
 apply Classical.byContradiction
 intro hc
 have h1 := two_pow_len h
 have : 2 ^ 32 ≤ 2 ^ l.length := Nat.pow_le_pow_right (by omega) (by omega)
 omega
structure TD (n q m : Nat) (acc : List Nat) : Prop where
 prod : mulAll acc * m = n
 prs : ∀ x ∈ acc, Pr x
 asc : acc.Pairwise (· ≤ ·)
 le : ∀ x ∈ acc, x ≤ q
 none : ∀ d, 2 ≤ d → d < q → ¬ d ∣ m
 pos : 1 ≤ m
theorem TD.start {n : Nat} (h : 1 ≤ n) : TD n 2 n [] :=
 ⟨by show 1 * n = n; omega, by intro x hx; exact absurd hx (List.not_mem_nil), List.Pairwise.nil, by intro x hx; exact absurd hx (List.not_mem_nil), by intro d h1 h2; omega, h⟩
theorem TD.m_le {n q m : Nat} {acc : List Nat} (h : TD n q m acc) : m ≤ n := by
 have h1 := mulAll_pos h.prs
 have := Nat.mul_le_mul h1 (Nat.le_refl m)
 have := h.prod
 omega
theorem TD.acc_le {n q m : Nat} {acc : List Nat} (h : TD n q m acc) : mulAll acc ≤ n := by
 have := Nat.mul_le_mul (Nat.le_refl (mulAll acc)) h.pos
 have := h.prod
 omega
theorem snoc_asc {l : List Nat} {x : Nat} (h : l.Pairwise (· ≤ ·)) (hx : ∀ y ∈ l, y ≤ x) : (l ++ [x]).Pairwise (· ≤ ·) :=
 List.pairwise_append.2 ⟨h, List.pairwise_singleton _ _, fun a ha b hb => by rw [List.mem_singleton.1 hb]; exact hx a ha⟩
theorem TD.take {n q m : Nat} {acc : List Nat} (h : TD n q m acc) (h2 : 2 ≤ q) (hd : m % q = 0) : TD n q (m / q) (acc ++ [q]) := by
 have hdv := Nat.dvd_of_mod_eq_zero hd
 have hq : Pr q := by
  refine ⟨h2, fun d hdq => ?_⟩
  by_cases h1 : d = 1
  ·exact Or.inl h1
  ·by_cases hq : d = q
   ·exact Or.inr hq
   ·exfalso
    have hle := Nat.le_of_dvd (by omega) hdq
    have h0 : d ≠ 0 := by rintro rfl; have := Nat.eq_zero_of_zero_dvd hdq; omega
    exact h.none d (by omega) (by omega) (Nat.dvd_trans hdq hdv)
 have e : q * (m / q) = m := Nat.mul_div_cancel' hdv
 refine ⟨?_, ?_, snoc_asc h.asc h.le, ?_, ?_, ?_⟩
 ·rw [mulAll_append]
  show mulAll acc * (q * 1) * (m / q) = n
  rw [Nat.mul_one, Nat.mul_assoc, e, h.prod]
 ·intro x hx
  rcases List.mem_append.1 hx with h1 | h1
  ·exact h.prs x h1
  ·rw [List.mem_singleton.1 h1]; exact hq
 ·intro x hx
  rcases List.mem_append.1 hx with h1 | h1
  ·exact h.le x h1
  ·rw [List.mem_singleton.1 h1]; exact Nat.le_refl q
 ·intro d h1 h3 h4
  exact h.none d h1 h3 (Nat.dvd_trans h4 ⟨q, by rw [Nat.mul_comm]; exact e.symm⟩)
 ·rcases Nat.eq_zero_or_pos (m / q) with h0 | h0
  ·rw [h0] at e; have := h.pos; omega
  ·exact h0
theorem TD.next {n q m : Nat} {acc : List Nat} (h : TD n q m acc) (hd : ¬ m % q = 0) : TD n (q + 1) m acc :=
 ⟨h.prod, h.prs, h.asc, fun x hx => Nat.le_trans (h.le x hx) (by omega), fun d h1 h2 h3 => by
  by_cases e : d = q
  ·subst e; exact hd (Nat.mod_eq_zero_of_dvd h3)
  ·exact h.none d h1 (by omega) h3, h.pos⟩
theorem TD.last {n q m : Nat} {acc : List Nat} (h : TD n q m acc) (hq : m < q * q) (h1 : 1 < m) : FacOf n (acc ++ [m]) := by
 have hm : Pr m := pr_trial (by omega) (fun d h2 h3 h4 => by
  refine h.none d h2 ?_ h4
  apply Classical.byContradiction
  intro hc
  have := Nat.mul_le_mul (show q ≤ d by omega) (show q ≤ d by omega)
  omega)
 have hqm : q ≤ m := by
  apply Classical.byContradiction
  intro hc
  exact h.none m (by omega) (by omega) (Nat.dvd_refl m)
 refine ⟨?_, ?_, snoc_asc h.asc (fun y hy => Nat.le_trans (h.le y hy) hqm)⟩
 ·rw [mulAll_append]
  show mulAll acc * (m * 1) = n
  rw [Nat.mul_one, h.prod]
 ·intro x hx
  rcases List.mem_append.1 hx with h2 | h2
  ·exact h.prs x h2
  ·rw [List.mem_singleton.1 h2]; exact hm
theorem TD.done {n q m : Nat} {acc : List Nat} (h : TD n q m acc) (h1 : ¬ 1 < m) : FacOf n acc := by
 have := h.pos
 have e : m = 1 := by omega
 subst e
 exact ⟨by have := h.prod; rw [Nat.mul_one] at this; exact this, h.prs, h.asc⟩
end Go.Proofs.YtelkokcnedbmeaaGreat.Num
namespace Go.Proofs.YtelkokcnedbmeaaGreat
open Go.RowKit Num
set_option maxRecDepth 20000
set_option maxRecDepth 8000
set_option linter.unusedVariables false
def toI (l : List Nat) : List Int := l.map (fun x : Nat => (x : Int))
theorem toI_len (l : List Nat) : (toI l).length = l.length := by simp [toI]
theorem toI_snoc (l : List Nat) (x : Nat) : toI (l ++ [x]) = toI l ++ [(x : Int)] := by simp [toI]
theorem toI_at (l : List Nat) {i : Nat} (h : i < l.length) : (toI l).getD i 0 = (l.getD i 0 : Int) := by
 rw [getD_lt _ _ (by rw [toI_len]; exact h), getD_lt _ _ h]; simp [toI]
theorem info_int64 : ∃ i, Tryz.prog.info? 2 = some i ∧ i.zero = some (.int .i64 0) ∧ i.size = 1 ∧ i.bytes = 8 := by
 refine ⟨_, rfl, ?_⟩
 exact ⟨rfl, rfl, rfl⟩
theorem quo_wrap {m q : Nat} (h : m ≤ 2000000000) : wrap64 ((m : Int) / (q : Int)) = ((m / q : Nat) : Int) := by
 have h1 : m / q ≤ m := Nat.div_le_self m q
 have h2 : ((m / q : Nat) : Int) ≤ 2000000000 := by omega
 have h3 : 0 ≤ ((m / q : Nat) : Int) := Int.natCast_nonneg _
 rw [← Int.natCast_ediv]
 exact IntWalk.wrap64_in _ ⟨by omega, by omega⟩
def RetF (w : World) (l : List Int) (e : Ending) (w' : World) : Prop :=
 ∃ A c, e = .returned (.slice A l.length c) ∧ RI .i64 w' A l ∧ Below w.heap.size w w'
def RetFE (w : World) (r : List Int × Int) (e : Ending) (w' : World) : Prop :=
 ∃ A c, e = .returned (.tuple #[.slice A r.1.length c, .int .i64 r.2]) ∧ RI .i64 w' A r.1 ∧ Below w.heap.size w w'
set_option maxHeartbeats 2000000 in
theorem factors_any (n : Nat) (w : World) (h1 : 1 ≤ n) (hn : n ≤ 2000000000) :
 Calls Tryz.prog 115 #[.int .i64 n] w (RetF w (toI (facs n))) := by
 obtain ⟨i0, hi0, hz0, hz1, hz2⟩ := info_int64
 go_enter Tryz.func115, Tryz.ntmps115
 go_wp2
 go_loopg [3, 4, 0] 49998 (fun gk a b c wr => ∃ (v : Value) (q m : Nat) (acc : List Nat), q + gk = 50000 ∧ a = v ∧ b = .int .i64 q ∧ c = .int .i64 m ∧ 2 ≤ q ∧ q ≤ 44722 ∧ Hid (TD n q m acc) ∧ wr.ownsRow w.heap.size 2 1 v acc.length ((toI acc).flatMap (encI .i64)) ∧ Below w.heap.size w wr)
 case atStart => exact ⟨_, 2, n, [], by omega, rfl, rfl, rfl, by omega, by omega, Lib.hid (TD.start h1), World.ownsRow_nil _ _ _ _, Below.refl _ _⟩
 case round =>
  obtain ⟨v, q, m, acc, hg, rfl, rfl, rfl, h2, hq2, HT, hO, hb⟩ := hrel
  have HG := Lib.hid hg
  clear hg
  have hsz := hb.size
  have hmn := HT.out.m_le
  have hm1 := HT.out.pos
  have f1 := mul_wrap (x := q) (y := q) (by omega) (by omega)
  by_cases hlt : q * q ≤ m
  ·have hq3 : q ≤ 44721 := by
    apply Classical.byContradiction
    intro hc
    have := Nat.mul_le_mul (show 44722 ≤ q by omega) (show 44722 ≤ q by omega)
    omega
   obtain ⟨gu, hgu⟩ : ∃ gu, gu = gk := ⟨gk, rfl⟩
   have HGU := Lib.hid hgu
   clear hgu
   have d1 : decide (q * q ≤ m) = true := decide_eq_true hlt
   have d2 : decide (((q * q : Nat) : Int) ≤ (m : Int)) = true := decide_eq_true (by omega)
   rw [Int.natCast_mul] at f1 d2
   go_wp2
   clear d1 d2 f1
   go_loopg [3, 0] m (fun gk a c wr => ∃ (v : Value) (m : Nat) (acc : List Nat), m = gk ∧ a = v ∧ c = .int .i64 m ∧ Hid (TD n q m acc) ∧ wr.ownsRow w.heap.size 2 1 v acc.length ((toI acc).flatMap (encI .i64)) ∧ Below w.heap.size w wr)
   case atStart => exact ⟨_, m, acc, rfl, rfl, rfl, HT, hO, hb⟩
   case round =>
    obtain ⟨v', m', acc', hm, rfl, rfl, HT', hO', hb'⟩ := hrel
    have HM := Lib.hid hm
    clear hm
    have hsz' := hb'.size
    have hmn' := HT'.out.m_le
    have hm1' := HT'.out.pos
    have hlen := len_lt HT'.out.prs HT'.out.acc_le (by omega)
    by_cases hdv : m' % q = 0
    ·have f1 : (((m' % q : Nat) : Int) == 0) = true := by rw [hdv]; rfl
     have f2 : wrap64 ((m' : Int) / (q : Int)) = ((m' / q : Nat) : Int) := quo_wrap (by omega)
     have hlt2 : m' / q < m' := Nat.div_lt_self (by omega) (by omega)
     go_wp2_with (at_builtin; refine wpList_append_own _ rfl _ _ 62 rfl w.heap.size 2 i0 _ 1 8 Tryz.underlying62 hi0 hz0 hz1 hz2 rfl (by decide) _ acc'.length _ rfl (hO'.alloc _) ⟨wr.heap.size, 0, none⟩ 1 1 (encI .i64 (q : Int)) rfl rfl (encI_news _ _ _ _) (encI_one _ _) (by unfold maxLen; omega) (by omega) (by simp; omega) ?_; intro v2 w2 hown2 hgrow2 _)
     go_roundg (m' / q)
     case rel => exact ⟨_, m' / q, acc' ++ [q], rfl, rfl, congrArg (Value.int .i64) f2, Lib.hid (HT'.out.take h2 hdv), by rw [toI_snoc, flat_snoc, List.length_append]; exact hown2, own_below (hb'.alloc hsz' _) (hO'.alloc _) hgrow2 (Nat.le_refl _) (by simp; omega)⟩
     case measure => have := HM.out; omega
    ·have f1 : (((m' % q : Nat) : Int) == 0) = false := by rw [beq_eq_false_iff_ne]; omega
     have HD := Lib.hid hdv
     clear hdv
     go_wp2
     go_roundg (gu - 1)
     case rel => exact ⟨_, q + 1, m', acc', by have := HG.out; have := HGU.out; omega, rfl, by go_num, rfl, by omega, by omega, Lib.hid (HT'.out.next HD.out), hO', hb'⟩
     case measure => have := HG.out; have := HGU.out; omega
  ·have d1 : decide (q * q ≤ m) = false := decide_eq_false hlt
   have d2 : decide (((q * q : Nat) : Int) ≤ (m : Int)) = false := decide_eq_false (by omega)
   rw [Int.natCast_mul] at f1 d2
   have hlen := len_lt HT.out.prs HT.out.acc_le (by omega)
   by_cases hm2 : 1 < m
   ·have hF := facs_eq (HT.out.last (by omega) hm2)
    have HF := Lib.hid hF
    clear hF
    go_wp2_with (at_builtin; refine wpList_append_own _ rfl _ _ 62 rfl w.heap.size 2 i0 _ 1 8 Tryz.underlying62 hi0 hz0 hz1 hz2 rfl (by decide) _ acc.length _ rfl (hO.alloc _) ⟨wr.heap.size, 0, none⟩ 1 1 (encI .i64 (m : Int)) rfl rfl (encI_news _ _ _ _) (encI_one _ _) (by unfold maxLen; omega) (by omega) (by simp; omega) ?_; intro v2 w2 hown2 hgrow2 _; obtain ⟨A8, c8, rfl, hc8⟩ := own_shape' hown2)
    have hl9 : (toI (facs n)).length = acc.length + 1 := by rw [toI_len, HF.out]; simp
    have hown : w2.ownsRow w.heap.size 2 1 (.slice A8 (acc.length + 1) c8) (acc.length + 1) ((toI (facs n)).flatMap (encI .i64)) := by
     rw [HF.out, toI_snoc, flat_snoc]; exact hown2
    have hb2 := own_below (hb.alloc hsz _) (hO.alloc _) hgrow2 (Nat.le_refl _) (by simp; omega)
    (go_ret; exact ⟨A8, acc.length + 1, by (rw [hl9]; rfl), own_RI_at hl9 hown, hb2⟩)
   ·have hF := facs_eq (HT.out.done hm2)
    have HF := Lib.hid hF
    clear hF
    have e1 : decide (1 < m) = false := decide_eq_false hm2
    have e2 : decide ((1 : Int) < (m : Int)) = false := decide_eq_false (by omega)
    obtain ⟨A8, c8, rfl, hc8⟩ := own_shape' hO
    have hl9 : (toI (facs n)).length = acc.length := by rw [toI_len, HF.out]
    have hown : wr.ownsRow w.heap.size 2 1 (.slice A8 acc.length c8) acc.length ((toI (facs n)).flatMap (encI .i64)) := by
     rw [HF.out]; exact hO
    (go_wp2; go_ret; exact ⟨A8, acc.length, by (rw [hl9]; rfl), own_RI_at hl9 hown, hb⟩)
end Go.Proofs.YtelkokcnedbmeaaGreat
namespace Go.Proofs.YtelkokcnedbmeaaGreat
open Go.RowKit Num
set_option maxRecDepth 20000
set_option maxRecDepth 8000
set_option linter.unusedVariables false
noncomputable def okP (p : Int) : Bool := decide (2 ≤ p ∧ p ≤ 2000000000) && primeB p.toNat
noncomputable def chkE (p : Int) : Int := if okP p = true then 0 else 2
noncomputable def bothE (p a : Int) : Int := if okP p = true then (if a < 0 ∨ p ≤ a then 8 else 0) else 2
theorem okP_iff {p : Int} : okP p = true ↔ ∃ P : Nat, p = P ∧ 2 ≤ P ∧ P ≤ 2000000000 ∧ Pr P := by
 unfold okP
 rw [Bool.and_eq_true, decide_eq_true_eq, primeB_iff]
 constructor
 ·rintro ⟨⟨h1, h2⟩, h3⟩
  exact ⟨p.toNat, by omega, by omega, by omega, h3⟩
 ·rintro ⟨P, rfl, h1, h2, h3⟩
  refine ⟨⟨by omega, by omega⟩, ?_⟩
  rw [Int.toNat_natCast]; exact h3
theorem okP_nat {P : Nat} (h1 : 2 ≤ P) (h2 : P ≤ 2000000000) : okP (P : Int) = primeB P := by
 unfold okP
 rw [decide_eq_true (by omega), Bool.true_and, Int.toNat_natCast]
theorem okP_out {p : Int} (h : ¬ (2 ≤ p ∧ p ≤ 2000000000)) : okP p = false := by
 unfold okP
 rw [decide_eq_false h, Bool.false_and]
theorem ringCheck_any (p : Int) (w : World) (hp1 : -9223372036854775808 ≤ p) (hp2 : p ≤ 9223372036854775807) :
 Calls Tryz.prog 109 #[.int .i64 p] w fun e w' => e = .returned (.int .i64 (chkE p)) ∧ Below w.heap.size w w' := by
 by_cases hr : 2 ≤ p ∧ p ≤ 2000000000
 ·obtain ⟨P, rfl⟩ : ∃ P : Nat, p = P := ⟨p.toNat, by omega⟩
  have h1 : 2 ≤ P := by omega
  have h2 : P ≤ 2000000000 := by omega
  clear hr hp1 hp2
  have e0 := okP_nat h1 h2
  cases hb : primeB P
  ·rw [hb] at e0
   have HE := Lib.hid (show chkE (P : Int) = 2 by unfold chkE; rw [e0]; rfl)
   clear e0
   go_enter Tryz.func109, Tryz.ntmps109
   go_wp2_with fail
   refine (prime_any P _ h1 h2).mono ?_
   rintro _ w1 ⟨rfl, hb1⟩
   rw [hb]
   go_wp2
   go_ret
   exact ⟨ret_int HE.out.symm, hb1⟩
  ·rw [hb] at e0
   have HE := Lib.hid (show chkE (P : Int) = 0 by unfold chkE; rw [e0]; rfl)
   clear e0
   go_enter Tryz.func109, Tryz.ntmps109
   go_wp2_with fail
   refine (prime_any P _ h1 h2).mono ?_
   rintro _ w1 ⟨rfl, hb1⟩
   rw [hb]
   go_wp2
   go_ret
   exact ⟨ret_int HE.out.symm, hb1⟩
 ·have HE := Lib.hid (show chkE p = 2 by unfold chkE; rw [okP_out hr]; rfl)
  rcases (show p < 2 ∨ (2 ≤ p ∧ 2000000000 < p) by omega) with h | ⟨h, h'⟩
  ·clear hr
   go_enter Tryz.func109, Tryz.ntmps109
   go_wp2
   go_ret
   exact ⟨ret_int HE.out.symm, Below.refl _ _⟩
  ·clear hr
   go_enter Tryz.func109, Tryz.ntmps109
   go_wp2
   go_ret
   exact ⟨ret_int HE.out.symm, Below.refl _ _⟩
theorem ok_cases (p : Int) : (chkE p = 0 ∧ okP p = true ∧ ∃ P : Nat, p = P ∧ 2 ≤ P ∧ P ≤ 2000000000 ∧ Pr P) ∨ (chkE p = 2 ∧ okP p = false) := by
 cases h : okP p
 ·exact Or.inr ⟨by unfold chkE; rw [h]; rfl, rfl⟩
 ·exact Or.inl ⟨by unfold chkE; rw [h]; rfl, rfl, okP_iff.1 h⟩
theorem element_any (p a : Int) (w : World) (hp1 : -9223372036854775808 ≤ p) (hp2 : p ≤ 9223372036854775807) :
 Calls Tryz.prog 112 #[.int .i64 p, .int .i64 a] w fun e w' => e = .returned (.int .i64 (bothE p a)) ∧ Below w.heap.size w w' := by
 rcases ok_cases p with ⟨e0, e1, P, rfl, h2, h3, hP⟩ | ⟨e0, e1⟩
 ·have c0 : (chkE (P : Int) != 0) = false := by rw [e0]; rfl
  have HP := Lib.hid hP
  clear hP
  by_cases ha : a < 0 ∨ (P : Int) ≤ a
  ·have HE := Lib.hid (show bothE (P : Int) a = 8 by unfold bothE; rw [if_pos e1, if_pos ha])
   rcases (show a < 0 ∨ (0 ≤ a ∧ (P : Int) ≤ a) by omega) with h | ⟨h, h'⟩
   ·clear ha
    go_enter Tryz.func112, Tryz.ntmps112
    go_wp2_with fail
    refine (ringCheck_any _ _ (by omega) (by omega)).mono ?_
    rintro _ w1 ⟨rfl, hb1⟩
    go_wp2
    go_ret
    exact ⟨ret_int HE.out.symm, hb1⟩
   ·clear ha
    go_enter Tryz.func112, Tryz.ntmps112
    go_wp2_with fail
    refine (ringCheck_any _ _ (by omega) (by omega)).mono ?_
    rintro _ w1 ⟨rfl, hb1⟩
    go_wp2
    go_ret
    exact ⟨ret_int HE.out.symm, hb1⟩
  ·have HE := Lib.hid (show bothE (P : Int) a = 0 by unfold bothE; rw [if_pos e1, if_neg ha])
   have g1 : 0 ≤ a := by omega
   have g2 : a < P := by omega
   clear ha
   go_enter Tryz.func112, Tryz.ntmps112
   go_wp2_with fail
   refine (ringCheck_any _ _ (by omega) (by omega)).mono ?_
   rintro _ w1 ⟨rfl, hb1⟩
   go_wp2
   go_ret
   exact ⟨ret_int HE.out.symm, hb1⟩
 ·have HE := Lib.hid (show bothE p a = chkE p by unfold bothE chkE; rw [e1]; rfl)
  have c0 : (chkE p != 0) = true := by rw [e0]; rfl
  have HC := Lib.hid e0
  clear e0
  go_enter Tryz.func112, Tryz.ntmps112
  go_wp2_with fail
  refine (ringCheck_any _ _ hp1 hp2).mono ?_
  rintro _ w1 ⟨rfl, hb1⟩
  go_wp2
  go_ret
  first
   | exact ⟨ret_int HE.out.symm, hb1⟩
   | exact ⟨ret_int (HE.out.trans HC.out).symm, hb1⟩
end Go.Proofs.YtelkokcnedbmeaaGreat
namespace Go.Proofs.YtelkokcnedbmeaaGreat
open Go.RowKit Num
set_option maxRecDepth 20000
set_option maxRecDepth 8000
set_option linter.unusedVariables false
def RetV (w : World) (r : Int × Int) (e : Ending) (w' : World) : Prop := e = .returned (.tuple #[.int .i64 r.1, .int .i64 r.2]) ∧ Below w.heap.size w w'
theorem RetV.mk {w w' : World} {x y : Int} {r : Int × Int} (hr : r = (x, y)) (hb : Below w.heap.size w w') : RetV w r (.returned (.tuple #[.int .i64 x, .int .i64 y])) w' := by
 subst hr; exact ⟨rfl, hb⟩
theorem both_cases (p a : Int) : (bothE p a = 0 ∧ ∃ P A : Nat, p = P ∧ a = A ∧ 2 ≤ P ∧ P ≤ 2000000000 ∧ Pr P ∧ A < P) ∨ (bothE p a = 2 ∨ bothE p a = 8) := by
 rcases ok_cases p with ⟨e0, e1, P, rfl, h2, h3, hP⟩ | ⟨e0, e1⟩
 ·by_cases ha : a < 0 ∨ (P : Int) ≤ a
  ·right; right; unfold bothE; rw [if_pos e1, if_pos ha]
  ·left
   exact ⟨by unfold bothE; rw [if_pos e1, if_neg ha], P, a.toNat, rfl, by omega, h2, h3, hP, by omega⟩
 ·right; left; unfold bothE; rw [e1]; rfl
noncomputable def invS (p a : Int) : Int × Int := if bothE p a = 0 then (if a = 0 then (0, 18) else (((a.toNat ^ (p.toNat - 2) % p.toNat : Nat) : Int), 0)) else (0, bothE p a)
theorem ringInv_any (p a : Int) (w : World) (hp1 : -9223372036854775808 ≤ p) (hp2 : p ≤ 9223372036854775807) :
 Calls Tryz.prog 104 #[.int .i64 p, .int .i64 a] w (RetV w (invS p a)) := by
 rcases both_cases p a with ⟨e0, P, A, rfl, rfl, h2, h3, hP, hA⟩ | e0
 ·have c0 : (bothE (P : Int) (A : Int) != 0) = false := by rw [e0]; rfl
  have HP := Lib.hid hP
  have HE := Lib.hid e0
  clear hP e0
  by_cases hn : A = 0
  ·have HS := Lib.hid (show invS P A = (0, 18) by unfold invS; rw [if_pos HE.out, if_pos (by omega)])
   have c1 : ((A : Int) == 0) = true := by rw [hn]; rfl
   clear hn
   go_enter Tryz.func104, Tryz.ntmps104
   go_wp2_with fail
   refine (element_any _ _ _ (by omega) (by omega)).mono ?_
   rintro _ w1 ⟨rfl, hb1⟩
   go_wp2
   go_ret2
   exact RetV.mk HS.out hb1
  ·have HS := Lib.hid (show invS P A = (((A ^ (P - 2) % P : Nat) : Int), 0) by unfold invS; rw [if_pos HE.out, if_neg (by omega)]; rfl)
   have c1 : ((A : Int) == 0) = false := by rw [beq_eq_false_iff_ne]; omega
   have g1 : IntKind.i64.wrap ((P : Int) - 2) = ((P - 2 : Nat) : Int) := by rw [IntWalk.i64_in _ (by omega)]; omega
   clear hn
   go_enter Tryz.func104, Tryz.ntmps104
   go_wp2_with fail
   refine (element_any _ _ _ (by omega) (by omega)).mono ?_
   rintro _ w1 ⟨rfl, hb1⟩
   (go_wp2_with fail; refine (power_any P A (P - 2) _ h2 h3 (by omega) (by omega)).mono ?_; rintro _ w2 ⟨rfl, hb2'⟩; have hb2 := bstep hb1 hb2')
   go_wp2
   go_ret2
   exact RetV.mk HS.out hb2
 ·have c0 : (bothE p a != 0) = true := by rw [bne_iff_ne]; omega
  have HS := Lib.hid (show invS p a = (0, bothE p a) by unfold invS; rw [if_neg (by omega)])
  clear e0
  go_enter Tryz.func104, Tryz.ntmps104
  go_wp2_with fail
  refine (element_any _ _ _ hp1 hp2).mono ?_
  rintro _ w1 ⟨rfl, hb1⟩
  first
   |(go_wp2; go_ret2; exact RetV.mk HS.out hb1)
   |(go_wp2_with fail; refine (element_any _ _ _ hp1 hp2).mono ?_; rintro _ w2 ⟨rfl, hb2⟩; go_wp2; go_ret2; exact RetV.mk HS.out (bstep hb1 hb2))
end Go.Proofs.YtelkokcnedbmeaaGreat
