/-
  FourierProducts: the walk.
-/
import Derived.Test.YtdcacklochaljaaFouT
import Derived.Test.YtdcacklochaljaaFouJ
import Derived.Test.YtdcacklochaljaaApart
namespace Go.Proofs.Ytdcacklochaljaa
open Go.RowKit Num
set_option linter.unusedVariables false

theorem fwd_atm (p : Int) (A : Option Addr) (c : Nat) (l : List Int) (n : Nat) (hn : l.length = n) (r : List Int) (x : Int) (h : fwdS p l = (r, x)) (w : World) (hx : RI .i64 w A l) (hl : n ≤ 9223372036854775807) (hp1 : -9223372036854775808 ≤ p) (hp2 : p ≤ 9223372036854775807) :
    Calls Try.prog 20 #[.int .i64 p, .slice A n c] w fun e w' => ∃ A c, e = .returned (.tuple #[.slice A r.length c, .int .i64 x]) ∧ RI .i64 w' A r ∧ Below w.heap.size w w' := by
  subst hn; exact fwd_at p A c l r x h w hx hl hp1 hp2
theorem same10_yes (A B : Option Addr) (c d n m : Nat) (xs : List Int) (hn : xs.length = n) (hm : xs.length = m) (w : World) (hx : RI .i64 w A xs) (hy : RI .i64 w B xs) (hl : n ≤ 140737488355328) :
    Calls Try.prog 19 #[.slice A n c, .slice B m d] w fun e w' => e = .returned (.bool true) ∧ ∃ n, w' = w.drewN n := by
  subst hn; subst hm
  have := same10_any A B c d xs xs w hx hy hl hl
  rw [decide_eq_true rfl] at this
  exact this
def prF (P : Nat) (xs ys : List Int) (k : Nat) : Int := xs.getD k 0 * ys.getD k 0 % (P : Int)
def adF (P : Nat) (xs ys : List Int) (k : Nat) : Int := (xs.getD k 0 + ys.getD k 0) % (P : Int)
def apartV (va vb : Value) : Prop := ∀ g, va.ownBlock = some g → vb.ownBlock ≠ some g

theorem kept_ap {w w' : World} {base : Nat} {e : TypeId} {s n : Nat} {va vb : Value} {xs : List Value} (hb : w.ownsRow base e s vb n xs) (hg : w.grownBy w' va.ownBlock) (hd : apartV va vb) : w'.ownsRow base e s vb n xs :=
  kept_apart (e' := e) (s' := s) (m := 0) (ys := []) hb hg hd
theorem apart_new {v : Value} {g n c : Nat} (h : v.ownBlock ≠ some g) : apartV (.slice (some ⟨g, 0, none⟩) n c) v := by
  intro g' h1 h2
  simp only [Value.ownBlock, Option.some.injEq] at h1
  subst h1
  exact h h2
theorem apart_new' {v : Value} {g n c : Nat} (h : v.ownBlock ≠ some g) : apartV v (.slice (some ⟨g, 0, none⟩) n c) := by
  intro g' h1 h2
  simp only [Value.ownBlock, Option.some.injEq] at h2
  subst h2
  exact h h1

set_option maxRecDepth 20000 in
set_option maxHeartbeats 4000000 in
theorem fourierProducts_walk (p : Int) (A : Option Addr) (c : Nat) (a : List Int) (B : Option Addr) (d : Nat) (b : List Int) (w : World)
    (hp : -9223372036854775808 ≤ p ∧ p ≤ 9223372036854775807)
    (hx : RI .i64 w A a) (hlx : a.length ≤ 9223372036854775807) (_ : ∀ x ∈ a, (Lit.int .i64 x).wf = true)
    (hy : RI .i64 w B b) (hly : b.length ≤ 9223372036854775807) (_ : ∀ x ∈ b, (Lit.int .i64 x).wf = true) :
    Calls Try.prog 6 #[.int .i64 p, .slice A a.length c, .slice B b.length d] w fun e w' => e = .returned (.bool true) ∧ Below w.heap.size w w' := by
  rcases fitB_cases p a b with ⟨e0, P, rfl, hF, hF', hlen⟩ | e0
  · have h1 := hF.l1
    have h2 := hF.l64
    have h3 := hF.pr.1
    have h4 := hF.le
    have H1 := Lib.hid (show fwdS (P : Int) a = (fwdL P a, 0) by unfold fwdS; rw [if_pos (chkL_ok hF)]; rfl)
    have H2 := Lib.hid (show fwdS (P : Int) b = (fwdL P b, 0) by unfold fwdS; rw [if_pos (chkL_ok hF')]; rfl)
    have H3 := Lib.hid (show cvS (P : Int) a b = (cvL P a b, 0) from cv_val hF hF' hlen rfl)
    have H4 := Lib.hid (show cvS (P : Int) b a = (cvL P a b, 0) from cv_val hF' hF hlen.symm (cv_comm hF hF' hlen).symm)
    have hFc := fit_cv (b := b) hF
    have H5 := Lib.hid (show fwdS (P : Int) (cvL P a b) = (fullL (prF P (fwdL P a) (fwdL P b)) a.length, 0) by
      unfold fwdS; rw [if_pos (chkL_ok hFc)]
      show (fwdL P (cvL P a b), (0 : Int)) = _
      rw [fwd_cv hF hlen]; rfl)
    have hFs : Fit P (fullL (adF P a b) a.length) := fit_full hF (fun k => ⟨Int.emod_nonneg _ (by omega), Int.emod_lt_of_pos _ (by omega)⟩)
    have H6 := Lib.hid (show fwdS (P : Int) (fullL (adF P a b) a.length) = (fullL (adF P (fwdL P a) (fwdL P b)) a.length, 0) by
      unfold fwdS; rw [if_pos (chkL_ok hFs)]
      show (fwdL P (fullL (adF P a b) a.length), (0 : Int)) = _
      exact congrArg (fun x => (x, (0 : Int))) (fwd_add hF hlen))
    have HX := Lib.hid (fit_fwd hF).el
    have HY := Lib.hid (fit_fwd hF').el
    have HEA := Lib.hid hF.el
    have HEB := Lib.hid hF'.el
    have HLX := Lib.hid (fwdL_len P a)
    have HLY := Lib.hid (show (fwdL P b).length = a.length by rw [fwdL_len, hlen])
    have HLC := Lib.hid (show (cvL P a b).length = a.length from cvI_len P a b _)
    have HLB := Lib.hid hlen
    obtain ⟨i0, hi0, hz0, hz1, hz2⟩ := info_int64
    clear hF hF' hFc hFs hlen
    generalize fwdL P a = xs at *
    generalize fwdL P b = ys at *
    generalize cvL P a b = cs at *
    go_enter Try.func6, Try.ntmps6
    go_wp2_with fail
    refine (fit11_any _ _ _ _ _ _ _ _ hx hy hlx hly hp.1 hp.2).mono ?_
    rintro _ w0 ⟨rfl, hb0⟩
    rw [e0]
    go_wp2_with fail
    refine (fwd_at (P : Int) _ _ a xs 0 H1.out _ (hx.keep hb0) hlx hp.1 hp.2).mono ?_
    rintro _ w1 ⟨A1, c1, rfl, r1, hb1⟩
    have hB1 := bstep hb0 hb1
    clear hb0 hb1
    go_wp2_with fail
    refine (fwd_at (P : Int) _ _ b ys 0 H2.out _ (hy.keep hB1) hly hp.1 hp.2).mono ?_
    rintro _ w2 ⟨A2, c2, rfl, r2, hb2⟩
    have hB2 := bstep hB1 hb2
    replace r1 := r1.keep hb2
    clear hB1 hb2
    go_wp2_with fail
    refine (conv_at (P : Int) _ _ _ _ a b cs 0 H3.out _ (hx.keep hB2) (hy.keep hB2) hlx hly hp.1 hp.2).mono ?_
    rintro _ w3 ⟨A3, c3, rfl, r3, hb3⟩
    have hB3 := bstep hB2 hb3
    replace r1 := r1.keep hb3
    replace r2 := r2.keep hb3
    clear hB2 hb3
    go_wp2_with fail
    refine (conv_at (P : Int) _ _ _ _ b a cs 0 H4.out _ (hy.keep hB3) (hx.keep hB3) hly hlx hp.1 hp.2).mono ?_
    rintro _ w4' ⟨A4, c4, rfl, r4, hb4⟩
    have hB4' := bstep hB3 hb4
    replace r1 := r1.keep hb4
    replace r2 := r2.keep hb4
    replace r3 := r3.keep hb4
    clear hB3 hb4
    go_wp2_with fail
    refine (same10_any _ _ _ _ _ _ _ r3 r4 (by rw [HLC.out]; omega) (by rw [HLC.out]; omega)).mono ?_
    rintro _ w4'' ⟨rfl, q4, rfl⟩
    have hB4 := below_drewN hB4' q4
    replace r1 := r1.keep (below_drewN (Below.refl _ _) q4)
    replace r2 := r2.keep (below_drewN (Below.refl _ _) q4)
    replace r3 := r3.keep (below_drewN (Below.refl _ _) q4)
    generalize w4'.drewN q4 = w4 at *
    have hlX := HLX.out
    have hlY := HLY.out
    have c7 : ((a.length : Int) != (a.length : Int)) = false := by simp
    simp only [hlX, hlY]
    go_wp2_with fail
    refine (fwd_at (P : Int) _ _ cs (fullL (prF P xs ys) a.length) 0 H5.out _ r3 (by rw [HLC.out]; omega) hp.1 hp.2).mono ?_
    rintro _ w5 ⟨A5, c5, rfl, r5, hb5⟩
    have hB5 := bstep hB4 hb5
    replace r1 := r1.keep hb5
    replace r2 := r2.keep hb5
    clear hB4 hb5 r3 r4
    have hxa := hx.keep hB5
    have hyb := hy.keep hB5
    go_wp2
    go_loopg [17, 18, 19, 20] a.length (fun gk v1 v2 v3 i wr => ∃ (k : Nat), k + gk = a.length ∧ i = .int .i64 k ∧ wr.ownsRow w5.heap.size 2 1 v1 k ((fullL (adF P a b) k).flatMap (encI .i64)) ∧ wr.ownsRow w5.heap.size 2 1 v2 k ((fullL (adF P xs ys) k).flatMap (encI .i64)) ∧ wr.ownsRow w5.heap.size 2 1 v3 k ((fullL (prF P xs ys) k).flatMap (encI .i64)) ∧ Hid (apartV v1 v2 ∧ apartV v1 v3 ∧ apartV v2 v3) ∧ Below w5.heap.size w5 wr)
    case atStart => exact ⟨0, by omega, rfl, World.ownsRow_nil _ _ _ _, World.ownsRow_nil _ _ _ _, World.ownsRow_nil _ _ _ _, Lib.hid ⟨fun g h => (by cases h), fun g h => (by cases h), fun g h => (by cases h)⟩, Below.refl _ _⟩
    case round =>
      obtain ⟨k, hk, rfl, hO1, hO2, hO3, HAP, hb⟩ := hrel
      have hk' : k ≤ a.length := by omega
      have HK := Lib.hid hk
      clear hk
      have hsz := hb.size
      obtain ⟨A6, c6, rfl, hc6⟩ := own_shape' hO1
      obtain ⟨A7, c7', rfl, hc7⟩ := own_shape' hO2
      obtain ⟨A8, c8, rfl, hc8⟩ := own_shape' hO3
      by_cases hlt : k < a.length
      · have hltb : k < b.length := by rw [← HLB.out]; exact hlt
        have hltx : k < xs.length := by rw [HLX.out]; exact hlt
        have hlty : k < ys.length := by rw [HLY.out]; exact hlt
        obtain ⟨b1, off1, rfl, i1, hc1⟩ := hxa.at2 hlt
        obtain ⟨b2, off2, rfl, i2, hc2⟩ := hyb.at2 hltb
        obtain ⟨b3, off3, rfl, i3, hc3⟩ := r1.at2 hltx
        obtain ⟨b4, off4, rfl, i4, hc4⟩ := r2.at2 hlty
        have z1 := HEA.out k hlt
        have z2 := HEB.out k hltb
        have z3 := HX.out k hltx
        have z4 := HY.out k hlty
        have n1 := Lib.hid (show (a.getD k 0 + b.getD k 0).tmod (P : Int) = adF P a b k by rw [Int.tmod_eq_emod_of_nonneg (by omega)]; rfl)
        have n2 := Lib.hid (show (xs.getD k 0 + ys.getD k 0).tmod (P : Int) = adF P xs ys k by rw [Int.tmod_eq_emod_of_nonneg (by omega)]; rfl)
        have fm := fit_mul (s := 0) h4 z3 z4
        have n3 := Lib.hid (show (xs.getD k 0 * ys.getD k 0).tmod (P : Int) = prF P xs ys k by rw [Int.tmod_eq_emod_of_nonneg fm.1]; rfl)
        have hcx : wr.cell? ⟨b3, off3 + k, none⟩ = some (.int .i64 (xs.getD k 0)) := (hb.cell (p := ⟨b3, off3 + k, none⟩) i3).trans hc3
        have hcy : wr.cell? ⟨b4, off4 + k, none⟩ = some (.int .i64 (ys.getD k 0)) := (hb.cell (p := ⟨b4, off4 + k, none⟩) i4).trans hc4
        generalize a.getD k 0 = x1 at *
        generalize b.getD k 0 = x2 at *
        generalize xs.getD k 0 = x3 at *
        generalize ys.getD k 0 = x4 at *
        obtain ⟨Z, hZ⟩ : ∃ Z, Z = x3 * x4 := ⟨_, rfl⟩
        have hw3 : IntKind.i64.wrap (x3 * x4) = Z := by rw [IntWalk.i64_in _ (by omega), hZ]
        rw [← hZ] at n3 fm
        clear hZ
        have hw1 : IntKind.i64.wrap (x1 + x2) = x1 + x2 := IntWalk.i64_in _ (by omega)
        have hw2 : IntKind.i64.wrap (x3 + x4) = x3 + x4 := IntWalk.i64_in _ (by omega)
        have hzP : ((P : Int) == 0) = false := by rw [beq_eq_false_iff_ne]; omega
        have hzP2 : ¬ ((P : Int) = 0) := by omega
        have hzP3 : ¬ (P = 0) := by omega
        have hcX6 : wr.cell? ⟨b1, off1 + k, none⟩ = some (.int .i64 x1) := (hb.cell (p := ⟨b1, off1 + k, none⟩) i1).trans hc1
        have hcY6 : wr.cell? ⟨b2, off2 + k, none⟩ = some (.int .i64 x2) := (hb.cell (p := ⟨b2, off2 + k, none⟩) i2).trans hc2
        have hsq6 := hb.size
        go_wp2
        go_region_held3 (fun w' => w'.cell? ⟨b1, off1 + k, none⟩ = some (.int .i64 x1) ∧ w'.cell? ⟨b2, off2 + k, none⟩ = some (.int .i64 x2))
          (first | go_keep | exact ⟨hcX6, hcY6⟩ | exact ⟨(hBn6.cell (p := ⟨b1, off1 + k, none⟩) i1).trans hc1, (hBn6.cell (p := ⟨b2, off2 + k, none⟩) i2).trans hc2⟩)
          ((first
            | (refine step_append_lies _ (by rfl) (.tmp 129) (.tmp 141) _ (by rfl) w5.heap.size 2 i0 _ 1 8 Try.underlying22 hi0 hz0 hz1 hz2 rfl (by omega) _ k _ (by rfl) (World.ownsRow.drew (hO1.alloc (.cells #[.int .i64 ((x1 + x2).tmod (P : Int))] 2))) ⟨wr.heap.size, 0, none⟩ 1 1 (encI .i64 ((x1 + x2).tmod (P : Int))) (by rfl) (by rfl) (encI_news wr _ _ _) (encI_one _ _) (by omega) (by unfold maxLen; omega) (by omega) (by simp [World.drew]; omega) (wr.heap.size + 1) (by simp [World.drew]) ?_; intro g6 c6 v6 hown6 hgrow6 hat6 hlt6; have hBn6 := own_below (balloc hb (.cells #[.int .i64 ((x1 + x2).tmod (P : Int))] 2)).drew (World.ownsRow.drew (hO1.alloc (.cells #[.int .i64 ((x1 + x2).tmod (P : Int))] 2))) hgrow6 (Nat.le_refl _) (by simp [World.drew]; omega))))
        clear hcX6 hcY6
        clear hcx hcy
        have ap := HAP.out
        have hAl := Below.refl wr.heap.size wr
        have k2 := kept_ap (World.ownsRow.drew (hO2.alloc (.cells #[.int .i64 ((x1 + x2).tmod (P : Int))] 2))) hgrow6 ap.1
        have k3 := kept_ap (World.ownsRow.drew (hO3.alloc (.cells #[.int .i64 ((x1 + x2).tmod (P : Int))] 2))) hgrow6 ap.2.1
        have m2 := apart_one (H := wr.heap.size + 1) hO2 ap.1 hat6 (by omega)
        have m3 := apart_one (H := wr.heap.size + 1) hO3 ap.2.1 hat6 (by omega)
        have AP2 := Lib.hid ap.2.2
        have M23 := Lib.hid (And.intro m2 m3)
        clear ap hO1 hO2 hO3 hgrow6 hat6 m2 m3 hAl
        have hcX7 : v6.cell? ⟨b3, off3 + k, none⟩ = some (.int .i64 x3) := (hBn6.cell (p := ⟨b3, off3 + k, none⟩) i3).trans hc3
        have hcY7 : v6.cell? ⟨b4, off4 + k, none⟩ = some (.int .i64 x4) := (hBn6.cell (p := ⟨b4, off4 + k, none⟩) i4).trans hc4
        have hsq7 := hBn6.size
        go_wp2
        go_region_held3 (fun w' => w'.cell? ⟨b3, off3 + k, none⟩ = some (.int .i64 x3) ∧ w'.cell? ⟨b4, off4 + k, none⟩ = some (.int .i64 x4))
          (first | go_keep | exact ⟨hcX7, hcY7⟩ | exact ⟨(hBn7.cell (p := ⟨b3, off3 + k, none⟩) i3).trans hc3, (hBn7.cell (p := ⟨b4, off4 + k, none⟩) i4).trans hc4⟩)
          ((first
            | (refine step_append_lies _ (by rfl) (.tmp 143) (.tmp 155) _ (by rfl) w5.heap.size 2 i0 _ 1 8 Try.underlying22 hi0 hz0 hz1 hz2 rfl (by omega) _ k _ (by rfl) (World.ownsRow.drew (k2.alloc (.cells #[.int .i64 ((x3 + x4).tmod (P : Int))] 2))) ⟨v6.heap.size, 0, none⟩ 1 1 (encI .i64 ((x3 + x4).tmod (P : Int))) (by rfl) (by rfl) (encI_news v6 _ _ _) (encI_one _ _) (by omega) (by unfold maxLen; omega) (by omega) (by simp [World.drew]; omega) (v6.heap.size + 1) (by simp [World.drew]) ?_; intro g7 c7 v7 hown7 hgrow7 hat7 hlt7; have hBn7 := own_below (balloc hBn6 (.cells #[.int .i64 ((x3 + x4).tmod (P : Int))] 2)).drew (World.ownsRow.drew (k2.alloc (.cells #[.int .i64 ((x3 + x4).tmod (P : Int))] 2))) hgrow7 (Nat.le_refl _) (by simp [World.drew]; omega))))
        clear hcX7 hcY7
        have k1 := kept_ap (World.ownsRow.drew (hown6.alloc (.cells #[.int .i64 ((x3 + x4).tmod (P : Int))] 2))) hgrow7 (apart_new' M23.out.1)
        have k3' := kept_ap (World.ownsRow.drew (k3.alloc (.cells #[.int .i64 ((x3 + x4).tmod (P : Int))] 2))) hgrow7 AP2.out
        have m6 := apart_one (H := v6.heap.size + 1) hown6 (apart_new' M23.out.1) hat7 (by omega)
        have m7 := apart_one (H := v6.heap.size + 1) k3 AP2.out hat7 (by omega)
        have M67 := Lib.hid (And.intro m6 m7)
        clear hown6 k2 k3 hgrow7 hat7 m6 m7 AP2
        have hcX8 : v7.cell? ⟨b3, off3 + k, none⟩ = some (.int .i64 x3) := (hBn7.cell (p := ⟨b3, off3 + k, none⟩) i3).trans hc3
        have hcY8 : v7.cell? ⟨b4, off4 + k, none⟩ = some (.int .i64 x4) := (hBn7.cell (p := ⟨b4, off4 + k, none⟩) i4).trans hc4
        have hsq8 := hBn7.size
        go_wp2
        go_region_held3 (fun w' => w'.cell? ⟨b3, off3 + k, none⟩ = some (.int .i64 x3) ∧ w'.cell? ⟨b4, off4 + k, none⟩ = some (.int .i64 x4))
          (first | go_keep | exact ⟨hcX8, hcY8⟩ | exact ⟨(hBn8.cell (p := ⟨b3, off3 + k, none⟩) i3).trans hc3, (hBn8.cell (p := ⟨b4, off4 + k, none⟩) i4).trans hc4⟩)
          ((first
            | (refine step_append_lies _ (by rfl) (.tmp 157) (.tmp 169) _ (by rfl) w5.heap.size 2 i0 _ 1 8 Try.underlying22 hi0 hz0 hz1 hz2 rfl (by omega) _ k _ (by rfl) (World.ownsRow.drew (k3'.alloc (.cells #[.int .i64 (Z.tmod (P : Int))] 2))) ⟨v7.heap.size, 0, none⟩ 1 1 (encI .i64 (Z.tmod (P : Int))) (by rfl) (by rfl) (encI_news v7 _ _ _) (encI_one _ _) (by omega) (by unfold maxLen; omega) (by omega) (by simp [World.drew]; omega) (v7.heap.size + 1) (by simp [World.drew]) ?_; intro g8 c8 v8 hown8 hgrow8 hat8 hlt8; have hBn8 := own_below (balloc hBn7 (.cells #[.int .i64 (Z.tmod (P : Int))] 2)).drew (World.ownsRow.drew (k3'.alloc (.cells #[.int .i64 (Z.tmod (P : Int))] 2))) hgrow8 (Nat.le_refl _) (by simp [World.drew]; omega))))
        clear hcX8 hcY8
        have k1' := kept_ap (World.ownsRow.drew (k1.alloc (.cells #[.int .i64 (Z.tmod (P : Int))] 2))) hgrow8 (apart_new' M23.out.2)
        have k2' := kept_ap (World.ownsRow.drew (hown7.alloc (.cells #[.int .i64 (Z.tmod (P : Int))] 2))) hgrow8 (apart_new' M67.out.2)
        have m8 := apart_one (H := v7.heap.size + 1) k1 (apart_new' M23.out.2) hat8 (by omega)
        have m9 := apart_one (H := v7.heap.size + 1) hown7 (apart_new' M67.out.2) hat8 (by omega)
        have HEND := Lib.hid (And.intro (apart_new' (n := k + 1) (c := c7) M67.out.1) (And.intro (apart_new' (n := k + 1) (c := c8) m8) (apart_new' (n := k + 1) (c := c8) m9)))
        clear k1 k3' hown7 hgrow8 hat8 m8 m9 M23 M67
        go_wp2
        go_roundg (gk - 1)
        case rel => exact ⟨k + 1, by have := HK.out; omega, by go_num, by rw [fullL_succ, flat_snoc, ← n1.out]; exact k1', by rw [fullL_succ, flat_snoc, ← n2.out]; exact k2', by rw [fullL_succ, flat_snoc, ← n3.out]; exact hown8, HEND, hBn8⟩
        case measure => have := HK.out; omega
      · obtain rfl : k = a.length := by omega
        clear hlt hk' HK HAP
        have r6 := own_RI_at (fullL_len _ _) hO1
        have r7 := own_RI_at (fullL_len _ _) hO2
        have r8 := own_RI_at (fullL_len _ _) hO3
        replace r5 := r5.keep hb
        have hBB := bstep hB5 hb
        clear hO1 hO2 hO3 hxa hyb hB5 hb
        go_wp2_with fail
        refine (fwd_atm (P : Int) _ _ (fullL (adF P a b) a.length) a.length (fullL_len _ _) (fullL (adF P xs ys) a.length) 0 H6.out _ r6 (by omega) hp.1 hp.2).mono ?_
        rintro _ w9 ⟨A9, c9, rfl, r9, hb9⟩
        have hB9 := bstep hBB hb9
        replace r5 := r5.keep hb9
        replace r7 := r7.keep hb9
        replace r8 := r8.keep hb9
        clear hb9 hBB r6
        simp only [fullL_len]
        go_wp2_with fail
        refine (same10_yes _ _ _ _ _ _ (fullL (prF P xs ys) a.length) (fullL_len _ _) (fullL_len _ _) _ r5 r8 (by omega)).mono ?_
        rintro _ w10 ⟨rfl, q10, rfl⟩
        go_wp2_with fail
        refine (same10_yes _ _ _ _ _ _ (fullL (adF P xs ys) a.length) (fullL_len _ _) (fullL_len _ _) _ (r9.keep (below_drewN (Below.refl _ _) _)) (r7.keep (below_drewN (Below.refl _ _) _)) (by omega)).mono ?_
        rintro _ w11 ⟨rfl, q11, rfl⟩
        go_wp2_with fail
        refine (alive11_any _).mono ?_
        rintro _ w12 ⟨rfl, hb12⟩
        go_wp2
        go_ret
        exact ⟨rfl, by first | exact bstep (below_drewN (below_drewN hB9 _) _) hb12 | exact bstep (below_drewN hB9 _) hb12⟩
  · go_enter Try.func6, Try.ntmps6
    go_wp2_with fail
    refine (fit11_any _ _ _ _ _ _ _ _ hx hy hlx hly hp.1 hp.2).mono ?_
    rintro _ w1 ⟨rfl, hb1⟩
    rw [e0]
    go_wp2_with fail
    refine (alive11_any _).mono ?_
    rintro _ w2 ⟨rfl, hb2⟩
    go_wp2
    go_ret
    exact ⟨rfl, bstep hb1 hb2⟩
end Go.Proofs.Ytdcacklochaljaa
