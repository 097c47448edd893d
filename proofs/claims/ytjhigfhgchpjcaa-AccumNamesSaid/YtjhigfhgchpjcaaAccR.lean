/-
  The chapter's examples: fringelaw18.alive.
-/
import Derived.Test.YtjhigfhgchpjcaaAccQ
namespace Go.Proofs.Ytjhigfhgchpjcaa
open Go.RowKit Runs Lagc Frac
set_option linter.unusedVariables false
set_option linter.unusedSimpArgs false

/-! ### plain -/
theorem uni_nil {b : List G} (h : Rn b) : uni [] b = (b, true) :=
  uni_yes ⟨h, fun t => by simp [mem_nil], fun t h => mem_nil t h.1, by simp, by simp [tot_nil]⟩
theorem uni_touch {p m k : Int} (h : okG (p, m)) (h2 : okG (p + m, k)) : uni [(p, m)] [(p + m, k)] = ([(p, m + k)], true) := by
  unfold okG at h h2
  simp only [] at h h2
  refine uni_yes ⟨Rn_one ⟨?_, ?_, ?_⟩, fun t => ?_, fun t => ?_, by simp, by simp [tot_one]⟩
  · simp only []; omega
  · simp only []; omega
  · simp only []; omega
  · rw [mem_one, mem_one, mem_one]; unfold inG; simp only []; omega
  · rw [mem_one, mem_one]; unfold inG; simp only []; omega
theorem mrg_is {a b : Acc} {U : List G} {s n : List (Int × Int)} (hu : uni a.g b.g = (U, true)) (h1 : rngB a.s b.s = true) (h2 : rngB a.n b.n = true) (h3 : U.length ≤ 64) (e1 : addL a.s b.s = s) (e2 : addL a.n b.n = n) : mrg a b = (⟨s, n, U⟩, 0) := by
  rw [mrg_e0 (by rw [hu]) h1 h2 (by rw [hu]; simp only []; omega), hu, e1, e2]
def aA : Acc := ⟨[(0, 0)], [(0, 0)], []⟩
def aB : Acc := ⟨[(0, 5)], [(0, 3)], [(0, 3)]⟩
def aC : Acc := ⟨[(0, 12)], [(0, 8)], [(0, 8)]⟩
def aD : Acc := ⟨[(-1, 999999999)], [(0, 1)], [(0, 1)]⟩
theorem new0 : newS 0 = (aA, 0) := by rfl
theorem addAB : addAcc aA [(5, 3)] 0 3 = (aB, 0) := by
  rw [addAcc_e0 (by decide) (by decide) (by decide)]
  exact mrg_is (uni_nil (Rn_one (by unfold okG; decide))) (by decide) (by decide) (by decide) (by decide) (by decide)
theorem addBC : addAcc aB [(7, 5)] 3 5 = (aC, 0) := by
  rw [addAcc_e0 (by decide) (by decide) (by decide)]
  exact mrg_is (uni_touch (p := 0) (m := 3) (k := 5) (by unfold okG; decide) (by unfold okG; decide)) (by decide) (by decide) (by decide) (by decide) (by decide)
theorem addCx : addAcc aC [(1, 1)] 7 1 = (.none, 14) := by
  rw [addAcc_e0 (by decide) (by decide) (by decide)]
  refine mrg_e14 ?_
  rw [uni_no (t := 7)]
  · exact ⟨(0, 8), by simp [aC], by unfold inG; simp only []; omega⟩
  · exact ⟨(7, 1), by simp [lagAcc], by unfold inG; simp only []; omega⟩
theorem addAD : addAcc aA [(-1, 1)] 0 1 = (aD, 0) := by
  rw [addAcc_e0 (by decide) (by decide) (by decide)]
  exact mrg_is (uni_nil (Rn_one (by unfold okG; decide))) (by decide) (by decide) (by decide) (by decide) (by decide)
theorem valC : valS aC 0 = ((12, 8), 0) := by decide
theorem meanC : meanS aC 0 = ((3, 2), 0) := by decide
theorem timC : timS aC = (8, 0) := by decide

/-! ### contracts at accumulators whose lengths are written out -/
def RetN (w : World) (a : Acc) (n1 n2 n3 : Nat) (x : Int) (e : Ending) (w' : World) : Prop :=
  ∃ S N G c1 c2 c3, e = .returned (.tuple #[.agg #[.slice S n1 c1, .slice N n2 c2, .slice G n3 c3], .int .i64 x]) ∧ RA w' S N G a ∧ FA w.heap.size S N G ∧ Below w.heap.size w w'
theorem RetA.toN {w w' : World} {r : Acc × Int} {e : Ending} (h : RetA w r e w') {a : Acc} {x : Int} {n1 n2 n3 : Nat} (hr : r = (a, x)) (h1 : a.s.length = n1) (h2 : a.n.length = n2) (h3 : a.g.length = n3) : RetN w a n1 n2 n3 x e w' := by
  subst hr; subst h1; subst h2; subst h3; exact h
theorem new_lit {m : Int} {a : Acc} {x : Int} {n1 n2 n3 : Nat} (hr : newS m = (a, x)) (h1 : a.s.length = n1) (h2 : a.n.length = n2) (h3 : a.g.length = n3) (hm : -9223372036854775808 ≤ m ∧ m ≤ 9223372036854775807) (w : World) : Calls Try.prog 12 #[.int .i64 m] w (RetN w a n1 n2 n3 x) :=
  (accNew_any m w hm).mono fun _ _ h => h.toN hr h1 h2 h3
theorem add_lit {a b : Acc} {l : List (Int × Int)} {p m x : Int} {n1 n2 n3 nl k1 k2 k3 : Nat} (hr : addAcc a l p m = (b, x)) (h1 : a.s.length = n1) (h2 : a.n.length = n2) (h3 : a.g.length = n3) (hl : l.length = nl) (e1 : b.s.length = k1) (e2 : b.n.length = k2) (e3 : b.g.length = k3)
    (b1 : n1 ≤ 1000) (b2 : n2 ≤ 1000) (b3 : n3 ≤ 1000) (b4 : nl ≤ 1000) (hp : -9223372036854775808 ≤ p ∧ p ≤ 9223372036854775807) (hm : -9223372036854775808 ≤ m ∧ m ≤ 9223372036854775807) (S N G L : Option Addr) (c1 c2 c3 c4 : Nat) (w : World) (hx : RA w S N G a) (hL : RL w L l) :
    Calls Try.prog 14 #[.agg #[.slice S n1 c1, .slice N n2 c2, .slice G n3 c3], .slice L nl c4, .int .i64 p, .int .i64 m] w (RetN w b k1 k2 k3 x) := by
  subst h1; subst h2; subst h3; subst hl
  exact (accAdd_any S N G L c1 c2 c3 c4 a l p m w hx hL (by omega) (by omega) (by omega) (by omega) hp hm).mono fun _ _ h => h.toN hr e1 e2 e3
theorem value_lit {a : Acc} {lag s n x : Int} {n1 n2 n3 : Nat} (hr : valS a lag = ((s, n), x)) (h1 : a.s.length = n1) (h2 : a.n.length = n2) (h3 : a.g.length = n3) (b1 : n1 ≤ 1000) (b2 : n2 ≤ 1000) (b3 : n3 ≤ 1000) (hlag : -9223372036854775808 ≤ lag ∧ lag ≤ 9223372036854775807) (S N G : Option Addr) (c1 c2 c3 : Nat) (w : World) (hx : RA w S N G a) :
    Calls Try.prog 22 #[.agg #[.slice S n1 c1, .slice N n2 c2, .slice G n3 c3], .int .i64 lag] w fun e w' => e = .returned (.tuple #[.int .i64 s, .int .i64 n, .int .i64 x]) ∧ Below w.heap.size w w' := by
  subst h1; subst h2; subst h3
  have := accValue_any S N G c1 c2 c3 a lag w hx (by omega) (by omega) (by omega) hlag
  rw [hr] at this
  exact this
theorem mean_lit {a : Acc} {lag s n x : Int} {n1 n2 n3 : Nat} (hr : meanS a lag = ((s, n), x)) (h1 : a.s.length = n1) (h2 : a.n.length = n2) (h3 : a.g.length = n3) (b1 : n1 ≤ 1000) (b2 : n2 ≤ 1000) (b3 : n3 ≤ 1000) (hlag : -9223372036854775808 ≤ lag ∧ lag ≤ 9223372036854775807) (S N G : Option Addr) (c1 c2 c3 : Nat) (w : World) (hx : RA w S N G a) :
    Calls Try.prog 24 #[.agg #[.slice S n1 c1, .slice N n2 c2, .slice G n3 c3], .int .i64 lag] w fun e w' => e = .returned (.tuple #[.agg #[.int .i64 s, .int .i64 n], .int .i64 x]) ∧ Below w.heap.size w w' := by
  subst h1; subst h2; subst h3
  have := accMean_any S N G c1 c2 c3 a lag w hx (by omega) (by omega) (by omega) hlag
  rw [hr] at this
  exact this
theorem times_lit {a : Acc} {s x : Int} {n1 n2 n3 : Nat} (hr : timS a = (s, x)) (h1 : a.s.length = n1) (h2 : a.n.length = n2) (h3 : a.g.length = n3) (b1 : n1 ≤ 1000) (b2 : n2 ≤ 1000) (b3 : n3 ≤ 1000) (S N G : Option Addr) (c1 c2 c3 : Nat) (w : World) (hx : RA w S N G a) :
    Calls Try.prog 26 #[.agg #[.slice S n1 c1, .slice N n2 c2, .slice G n3 c3]] w fun e w' => e = .returned (.tuple #[.int .i64 s, .int .i64 x]) ∧ Below w.heap.size w w' := by
  subst h1; subst h2; subst h3
  have := accTimes_any S N G c1 c2 c3 a w hx (by omega) (by omega) (by omega)
  rw [hr] at this
  exact this
theorem eqg_frac : Try.prog.eqGuardType Try.prog.depth 49 = false := by kernel_rfl
theorem sih_frac : Try.prog.stoodInHeld 49 = false := by kernel_rfl
theorem und_frac : Try.prog.underlying 49 = some (.struct (Try.prog.fieldsOf 49)) := by kernel_rfl
theorem eqf_frac (x y : Int × Int) (w : World) : (Op.equalIn 10000 49 (.agg #[.int .i64 x.1, .int .i64 x.2]) (.agg #[.int .i64 y.1, .int .i64 y.2])).run Try.prog w = .ok (decide (x = y)) w := by
  have e3 := Try.underlying2
  rw [run_equalIn_agg _ _ _ _ _ und_frac sih_frac]
  obtain ⟨x0, x1⟩ := x
  obtain ⟨y0, y1⟩ := y
  by_cases h0 : x0 = y0 <;> by_cases h1 : x1 = y1 <;> simp [go_sem, Try.underlying49, h0, h1]
set_option maxRecDepth 20000 in
set_option maxHeartbeats 4000000 in
theorem alive18 (w : World) : Calls Try.prog 28 #[] w fun e w' => e = .returned (.bool true) ∧ Below w.heap.size w w' := by
  have g1 := eqg_frac
  have g2 := fun w => eqf_frac (3, 2) (3, 2) w
  have g3 := eqg_gap
  have g4 := fun w => eqf_gap (0, 8) (0, 8) w
  have g5 := eqg_count
  have g6 := fun w => eqf_count (-1, 999999999) (-1, 999999999) w
  rw [decide_eq_true rfl] at g2 g4 g6
  go_enter Try.func28, Try.ntmps28
  go_wp2_with fail
  refine (new_lit (n1 := 1) (n2 := 1) (n3 := 0) new0 rfl rfl rfl (by omega) _).mono ?_
  rintro _ w1 ⟨S1, N1, G1, x1, y1, z1, rfl, r1, f1, hb1⟩
  go_wp2_with fail
  obtain ⟨u1, hu1⟩ : ∃ u1, u1 = w1.alloc (.cells #[.slice S1 1 x1, .slice N1 1 y1, .slice G1 0 z1] 25) := ⟨_, rfl⟩
  have v1 : Blk u1 w1.heap.size 25 #[.slice S1 1 x1, .slice N1 1 y1, .slice G1 0 z1] := by rw [hu1]; exact Blk.new _ _ _
  have ra1 : RA u1 S1 N1 G1 aA := by rw [hu1]; exact r1.keep (balloc (Below.refl _ _) _)
  have hB1 : Below w.heap.size w u1 := by rw [hu1]; exact balloc hb1 _
  have hz : Hid (u1.heap.size = w1.heap.size + 1) := Lib.hid (by rw [hu1]; simp)
  rw [← hu1]
  clear hu1
  have l1 : RL (u1.alloc (.cells #[.int .i64 5, .int .i64 3] 65)) (some ⟨(w1.heap.size + 1), 0, none⟩) [(5, 3)] := RL_lit [(5, 3)] _ (Blk.newAt (w := u1) (g := (w1.heap.size + 1)) 65 #[.int .i64 5, .int .i64 3] hz.out) rfl
  refine (add_lit (n1 := 1) (n2 := 1) (n3 := 0) (nl := 1) (k1 := 1) (k2 := 1) (k3 := 1) addAB rfl rfl rfl rfl rfl rfl rfl (by omega) (by omega) (by omega) (by omega) (by omega) (by omega) S1 N1 G1 _ x1 y1 z1 _ _ (ra1.keep (balloc (Below.refl _ _) _)) l1).mono ?_
  rintro _ w2 ⟨S2, N2, G2, x2, y2, z2, rfl, r2, f2, hb2⟩
  replace hb2 := bstep (balloc (Below.refl _ _) _) hb2
  replace hB1 := bstep hB1 hb2
  replace v1 := v1.keep hb2
  replace ra1 := ra1.keep hb2
  clear l1
  go_wp2_with fail
  obtain ⟨u2, hu2⟩ : ∃ u2, u2 = w2.alloc (.cells #[.slice S2 1 x2, .slice N2 1 y2, .slice G2 1 z2] 25) := ⟨_, rfl⟩
  have v2 : Blk u2 w2.heap.size 25 #[.slice S2 1 x2, .slice N2 1 y2, .slice G2 1 z2] := by rw [hu2]; exact Blk.new _ _ _
  have ra2 : RA u2 S2 N2 G2 aB := by rw [hu2]; exact r2.keep (balloc (Below.refl _ _) _)
  have hb : Below w2.heap.size w2 u2 := by rw [hu2]; exact balloc (Below.refl _ _) _
  have hz : Hid (u2.heap.size = w2.heap.size + 1) := Lib.hid (by rw [hu2]; simp)
  rw [← hu2]
  replace hB1 := bstep hB1 hb
  replace v1 := v1.keep hb
  replace ra1 := ra1.keep hb
  clear hu2 hb
  have l1 : RL (u2.alloc (.cells #[.int .i64 7, .int .i64 5] 65)) (some ⟨(w2.heap.size + 1), 0, none⟩) [(7, 5)] := RL_lit [(7, 5)] _ (Blk.newAt (w := u2) (g := (w2.heap.size + 1)) 65 #[.int .i64 7, .int .i64 5] hz.out) rfl
  refine (add_lit (n1 := 1) (n2 := 1) (n3 := 1) (nl := 1) (k1 := 1) (k2 := 1) (k3 := 1) addBC rfl rfl rfl rfl rfl rfl rfl (by omega) (by omega) (by omega) (by omega) (by omega) (by omega) S2 N2 G2 _ x2 y2 z2 _ _ (ra2.keep (balloc (Below.refl _ _) _)) l1).mono ?_
  rintro _ w3 ⟨S3, N3, G3, x3, y3, z3, rfl, r3, f3, hb3⟩
  replace hb3 := bstep (balloc (Below.refl _ _) _) hb3
  replace hB1 := bstep hB1 hb3
  replace v1 := v1.keep hb3
  replace ra1 := ra1.keep hb3
  clear l1 v2 ra2
  go_wp2_with fail
  obtain ⟨u3, hu3⟩ : ∃ u3, u3 = w3.alloc (.cells #[.slice S3 1 x3, .slice N3 1 y3, .slice G3 1 z3] 25) := ⟨_, rfl⟩
  have v3 : Blk u3 w3.heap.size 25 #[.slice S3 1 x3, .slice N3 1 y3, .slice G3 1 z3] := by rw [hu3]; exact Blk.new _ _ _
  have ra3 : RA u3 S3 N3 G3 aC := by rw [hu3]; exact r3.keep (balloc (Below.refl _ _) _)
  have hb : Below w3.heap.size w3 u3 := by rw [hu3]; exact balloc (Below.refl _ _) _
  rw [← hu3]
  replace hB1 := bstep hB1 hb
  replace v1 := v1.keep hb
  replace ra1 := ra1.keep hb
  clear hu3 hb
  refine (value_lit (n1 := 1) (n2 := 1) (n3 := 1) valC rfl rfl rfl (by omega) (by omega) (by omega) (by omega) S3 N3 G3 x3 y3 z3 _ ra3).mono ?_
  rintro _ w4 ⟨rfl, hb4⟩
  replace hB1 := bstep hB1 hb4
  replace v1 := v1.keep hb4
  replace ra1 := ra1.keep hb4
  replace v3 := v3.keep hb4
  replace ra3 := ra3.keep hb4
  have q0 : World.cell? w4 ⟨w3.heap.size, 0, none⟩ = some (.slice S3 1 x3) := v3.cell 0
  have f0 := v3.frozen 0
  have q1 : World.cell? w4 ⟨w3.heap.size, 1, none⟩ = some (.slice N3 1 y3) := v3.cell 1
  have f1 := v3.frozen 1
  have q2 : World.cell? w4 ⟨w3.heap.size, 2, none⟩ = some (.slice G3 1 z3) := v3.cell 2
  have f2 := v3.frozen 2
  have fl := v3.lt
  go_wp2_with fail
  refine (mean_lit (n1 := 1) (n2 := 1) (n3 := 1) meanC rfl rfl rfl (by omega) (by omega) (by omega) (by omega) S3 N3 G3 x3 y3 z3 _ ra3).mono ?_
  rintro _ w5 ⟨rfl, hb5⟩
  replace hB1 := bstep hB1 hb5
  replace v1 := v1.keep hb5
  replace ra1 := ra1.keep hb5
  replace v3 := v3.keep hb5
  replace ra3 := ra3.keep hb5
  clear q0 q1 q2 f0 f1 f2 fl
  have q0 : World.cell? w5 ⟨w3.heap.size, 0, none⟩ = some (.slice S3 1 x3) := v3.cell 0
  have f0 := v3.frozen 0
  have q1 : World.cell? w5 ⟨w3.heap.size, 1, none⟩ = some (.slice N3 1 y3) := v3.cell 1
  have f1 := v3.frozen 1
  have q2 : World.cell? w5 ⟨w3.heap.size, 2, none⟩ = some (.slice G3 1 z3) := v3.cell 2
  have f2 := v3.frozen 2
  have fl := v3.lt
  go_wp2_with fail
  obtain ⟨u5, hu5⟩ : ∃ u5, u5 = w5.alloc (.cells #[.int .i64 3, .int .i64 2] 49) := ⟨_, rfl⟩
  have v5 : Blk u5 w5.heap.size 49 #[.int .i64 3, .int .i64 2] := by rw [hu5]; exact Blk.new _ _ _
  have hb : Below w5.heap.size w5 u5 := by rw [hu5]; exact balloc (Below.refl _ _) _
  rw [← hu5]
  replace hB1 := bstep hB1 hb
  replace v1 := v1.keep hb
  replace ra1 := ra1.keep hb
  replace v3 := v3.keep hb
  replace ra3 := ra3.keep hb
  clear hu5 hb q0 q1 q2 f0 f1 f2 fl
  refine (times_lit (n1 := 1) (n2 := 1) (n3 := 1) timC rfl rfl rfl (by omega) (by omega) (by omega) S3 N3 G3 x3 y3 z3 _ ra3).mono ?_
  rintro _ w6 ⟨rfl, hb6⟩
  replace hB1 := bstep hB1 hb6
  replace v1 := v1.keep hb6
  replace ra1 := ra1.keep hb6
  replace v3 := v3.keep hb6
  replace ra3 := ra3.keep hb6
  replace v5 := v5.keep hb6
  have q0 : World.cell? w6 ⟨w3.heap.size, 0, none⟩ = some (.slice S3 1 x3) := v3.cell 0
  have f0 := v3.frozen 0
  have q1 : World.cell? w6 ⟨w3.heap.size, 1, none⟩ = some (.slice N3 1 y3) := v3.cell 1
  have f1 := v3.frozen 1
  have q2 : World.cell? w6 ⟨w3.heap.size, 2, none⟩ = some (.slice G3 1 z3) := v3.cell 2
  have f2 := v3.frozen 2
  have fl := v3.lt
  go_wp2_with fail
  have l1 : RL (w6.alloc (.cells #[.int .i64 1, .int .i64 1] 65)) (some ⟨w6.heap.size, 0, none⟩) [(1, 1)] := RL_lit [(1, 1)] _ (Blk.newAt (w := w6) (g := w6.heap.size) 65 #[.int .i64 1, .int .i64 1] rfl) rfl
  refine (add_lit (n1 := 1) (n2 := 1) (n3 := 1) (nl := 1) (k1 := 0) (k2 := 0) (k3 := 0) addCx rfl rfl rfl rfl rfl rfl rfl (by omega) (by omega) (by omega) (by omega) (by omega) (by omega) S3 N3 G3 _ x3 y3 z3 _ _ (ra3.keep (balloc (Below.refl _ _) _)) l1).mono ?_
  rintro _ w7 ⟨S7, N7, G7, x7, y7, z7, rfl, r7, f7, hb7⟩
  replace hb7 := bstep (balloc (Below.refl _ _) _) hb7
  replace hB1 := bstep hB1 hb7
  replace v1 := v1.keep hb7
  replace ra1 := ra1.keep hb7
  replace v3 := v3.keep hb7
  replace ra3 := ra3.keep hb7
  replace v5 := v5.keep hb7
  clear l1 q0 q1 q2 f0 f1 f2 fl
  have q0 : World.cell? w7 ⟨w1.heap.size, 0, none⟩ = some (.slice S1 1 x1) := v1.cell 0
  have f0 := v1.frozen 0
  have q1 : World.cell? w7 ⟨w1.heap.size, 1, none⟩ = some (.slice N1 1 y1) := v1.cell 1
  have f1 := v1.frozen 1
  have q2 : World.cell? w7 ⟨w1.heap.size, 2, none⟩ = some (.slice G1 0 z1) := v1.cell 2
  have f2 := v1.frozen 2
  have fl := v1.lt
  go_wp2_with fail
  obtain ⟨u7, hu7⟩ : ∃ u7, u7 = w7.alloc (.cells #[.slice S7 0 x7, .slice N7 0 y7, .slice G7 0 z7] 25) := ⟨_, rfl⟩
  have hb : Below w7.heap.size w7 u7 := by rw [hu7]; exact balloc (Below.refl _ _) _
  have hz : Hid (u7.heap.size = w7.heap.size + 1) := Lib.hid (by rw [hu7]; simp)
  rw [← hu7]
  replace hB1 := bstep hB1 hb
  replace v1 := v1.keep hb
  replace ra1 := ra1.keep hb
  replace v3 := v3.keep hb
  replace ra3 := ra3.keep hb
  replace v5 := v5.keep hb
  clear hu7 hb q0 q1 q2 f0 f1 f2 fl
  have l1 : RL (u7.alloc (.cells #[.int .i64 (-1), .int .i64 1] 65)) (some ⟨(w7.heap.size + 1), 0, none⟩) [((-1), 1)] := RL_lit [((-1), 1)] _ (Blk.newAt (w := u7) (g := (w7.heap.size + 1)) 65 #[.int .i64 (-1), .int .i64 1] hz.out) rfl
  refine (add_lit (n1 := 1) (n2 := 1) (n3 := 0) (nl := 1) (k1 := 1) (k2 := 1) (k3 := 1) addAD rfl rfl rfl rfl rfl rfl rfl (by omega) (by omega) (by omega) (by omega) (by omega) (by omega) S1 N1 G1 _ x1 y1 z1 _ _ (ra1.keep (balloc (Below.refl _ _) _)) l1).mono ?_
  rintro _ w8 ⟨S8, N8, G8, x8, y8, z8, rfl, r8, f8, hb8⟩
  replace hb8 := bstep (balloc (Below.refl _ _) _) hb8
  replace hB1 := bstep hB1 hb8
  replace v3 := v3.keep hb8
  replace ra3 := ra3.keep hb8
  replace v5 := v5.keep hb8
  obtain ⟨b1, o1, e1, _, p1, p2⟩ := ra3.g.at_ (i := 0) (by simp [aC])
  obtain ⟨b2, o2, e2, _, p3, p4⟩ := r8.s.at_ (i := 0) (by simp [aD])
  subst e1
  subst e2
  simp only [aC, aD, Nat.zero_mul, Nat.add_zero, List.getD_cons_zero] at p1 p2 p3 p4
  have q0 : World.cell? w8 ⟨w3.heap.size, 0, none⟩ = some (.slice S3 1 x3) := v3.cell 0
  have f0 := v3.frozen 0
  have q1 : World.cell? w8 ⟨w3.heap.size, 1, none⟩ = some (.slice N3 1 y3) := v3.cell 1
  have f1 := v3.frozen 1
  have q2 : World.cell? w8 ⟨w3.heap.size, 2, none⟩ = some (.slice (some ⟨b1, o1, none⟩) 1 z3) := v3.cell 2
  have f2 := v3.frozen 2
  have fl := v3.lt
  have p0 : World.cell? w8 ⟨w5.heap.size, 0, none⟩ = some (.int .i64 3) := v5.cell 0
  have pf0 := v5.frozen 0
  have p1 : World.cell? w8 ⟨w5.heap.size, 1, none⟩ = some (.int .i64 2) := v5.cell 1
  have pf1 := v5.frozen 1
  have pfl := v5.lt
  clear v1 ra1 v3 ra3 v5 r1 r2 r3 r7 r8 hb1 hb2 hb3 hb4 hb5 hb6 hb7 hb8
  go_wp2
  go_ret
  exact ⟨rfl, by (repeat (first | with_reducible exact Below.refl _ _ | assumption | with_reducible refine below_drewN ?_ _ | with_reducible refine Below.drew ?_ | with_reducible refine balloc ?_ _ | (with_reducible refine Below.setCell ?_ ?_ _; rotate_left; focus (first | (simp; done) | (simp; omega) | omega))))⟩
end Go.Proofs.Ytjhigfhgchpjcaa
