/-
  Contracts: align.piece.agrees, align.all, fringeref14.agrees.
-/
import Derived.Test.YtbejkfeloffccaaAlignK
namespace Go.Proofs.Ytbejkfeloffccaa
open Go.RowKit
set_option linter.unusedVariables false

/-- The sample of a block at a time that it covers. -/
def sB (b : Int × List Int) (t : Int) : Int := b.2.getD (t - b.1).toNat 0
def clash (x y : Int) : Bool := x != 0 && (y != 0 && x != y)
/-- Two blocks have the same samples where neither is missing. -/
def agB (p q : Int × List Int) : Bool := (List.range p.2.length).all (fun i => !(decide (q.1 ≤ p.1 + i ∧ p.1 + i < endB q) && clash (sB p (p.1 + i)) (sB q (p.1 + i))))
theorem agB_iff (p q : Int × List Int) : agB p q = true ↔ ∀ t, p.1 ≤ t → t < endB p → q.1 ≤ t → t < endB q → clash (sB p t) (sB q t) = false := by
  unfold agB
  rw [List.all_eq_true]
  constructor
  · intro h t h1 h2 h3 h4
    have h5 := h (t - p.1).toNat (by unfold endB at h2; simp; omega)
    have e : p.1 + ((t - p.1).toNat : Int) = t := by omega
    rw [e] at h5
    simp only [Bool.not_eq_true', Bool.and_eq_false_iff, decide_eq_false_iff_not] at h5
    rcases h5 with h5 | h5
    · exact absurd ⟨h3, h4⟩ h5
    · exact h5
  · intro h i hi
    have hi' : i < p.2.length := by simpa using hi
    simp only [Bool.not_eq_true', Bool.and_eq_false_iff, decide_eq_false_iff_not]
    by_cases h1 : q.1 ≤ p.1 + i ∧ p.1 + i < endB q
    · exact .inr (h _ (by omega) (by unfold endB; omega) h1.1 h1.2)
    · exact .inl h1
theorem clash_yes {x y : Int} (h1 : (x != 0) = true) (h2 : (y != 0) = true) (h3 : (x != y) = true) : clash x y = true := by simp [clash, h1, h2, h3]
theorem clash_x {x y : Int} (h1 : (x != 0) = false) : clash x y = false := by simp [clash, h1]
theorem clash_y {x y : Int} (h2 : (y != 0) = false) : clash x y = false := by simp [clash, h2]
theorem clash_xy {x y : Int} (h3 : (x != y) = false) : clash x y = false := by simp [clash, h3]

set_option maxHeartbeats 8000000 in
theorem agrees_any (p q : Int × List Int) (A B : Option Addr) (c d : Nat) (w : World) (hx : RI .i64 w A p.2) (hy : RI .i64 w B q.2) (hp : okB p = true) (hq : okB q = true) :
    Calls Try.prog 45 #[.agg #[.int .i64 p.1, .slice A p.2.length c], .agg #[.int .i64 q.1, .slice B q.2.length d]] w fun e w' => e = .returned (.bool (agB p q)) ∧ Below w.heap.size w w' := by
  obtain ⟨p1, p2, p3, p4, _⟩ := okB_bd hp
  obtain ⟨q1, q2, q3, q4, _⟩ := okB_bd hq
  clear hp hq
  have hb0 : Below w.heap.size w ((w.alloc (.cells #[.int .i64 p.1, .slice A p.2.length c] 79)).alloc (.cells #[.int .i64 q.1, .slice B q.2.length d] 79)) := balloc (balloc (Below.refl _ _) _) _
  have hP0 := (Blk.new w 79 #[.int .i64 p.1, .slice A p.2.length c]).alloc (.cells #[.int .i64 q.1, .slice B q.2.length d] 79)
  have hQ0 := Blk.newAt (w := w.alloc (.cells #[.int .i64 p.1, .slice A p.2.length c] 79)) (g := w.heap.size + 1) 79 #[.int .i64 q.1, .slice B q.2.length d] (by simp)
  obtain ⟨W0, hW0⟩ : ∃ W0, W0 = ((w.alloc (.cells #[.int .i64 p.1, .slice A p.2.length c] 79)).alloc (.cells #[.int .i64 q.1, .slice B q.2.length d] 79)) := ⟨_, rfl⟩
  rw [← hW0] at hb0 hP0 hQ0
  have HW0 := Lib.hid hW0
  clear hW0
  go_enter Try.func45, Try.ntmps45
  go_wp2
  all_goals
    go_loopg [5, 6, 7] 600 (fun gk s5 _ _ wr => ∃ (T : Int) (n : Nat), n + gk = 600 ∧ s5 = .int .i64 T ∧ n ≤ T - p.1 ∧ p.1 ≤ T ∧ q.1 ≤ T ∧ T ≤ 1001000 ∧ Below W0.heap.size W0 wr ∧ Hid (∀ t, p.1 ≤ t → q.1 ≤ t → t < T → clash (sB p t) (sB q t) = false))
    case atStart => exact ⟨_, 0, by omega, rfl, by omega, by omega, by omega, by omega, by rw [HW0.out]; exact Below.refl _ _, Lib.hid (by intro t h1 h2 h3; omega)⟩
    case round =>
      obtain ⟨T, n, hn, rfl, hn2, hT1, hT2, hT3, hb, hall⟩ := hrel
      have HN := Lib.hid hn
      clear hn
      have hP := hP0.keep hb
      have hQ := hQ0.keep hb
      have a0 : World.cell? wr ⟨w.heap.size, 0, none⟩ = some (.int .i64 p.1) := hP.cell 0
      have af0 := hP.frozen 0
      have a1 : World.cell? wr ⟨w.heap.size, 1, none⟩ = some (.slice A p.2.length c) := hP.cell 1
      have af1 := hP.frozen 1
      have afl := hP.lt
      have b0 : World.cell? wr ⟨w.heap.size + 1, 0, none⟩ = some (.int .i64 q.1) := hQ.cell 0
      have bf0 := hQ.frozen 0
      have b1 : World.cell? wr ⟨w.heap.size + 1, 1, none⟩ = some (.slice B q.2.length d) := hQ.cell 1
      have bf1 := hQ.frozen 1
      have bfl := hQ.lt
      go_wp2
      go_region_held3 (fun w' => (w'.cell? ⟨w.heap.size, 0, none⟩ = some (.int .i64 p.1) ∧ w'.cell? ⟨w.heap.size, 1, none⟩ = some (.slice A p.2.length c)) ∧ w'.cell? ⟨w.heap.size + 1, 0, none⟩ = some (.int .i64 q.1) ∧ w'.cell? ⟨w.heap.size + 1, 1, none⟩ = some (.slice B q.2.length d))
        (first | go_keep | exact ⟨⟨(hP0.keep hB3).cell 0, (hP0.keep hB3).cell 1⟩, (hQ0.keep hB3).cell 0, (hQ0.keep hB3).cell 1⟩)
        ((go_at_call 46; refine (end_any _ _ _ _ _ (by omega) (by omega) (by omega)).mono ?_; rintro e w3 ⟨rfl, hb3⟩; have hB3 : Below W0.heap.size W0 w3 := (by first | exact bstep hB3 hb3 | exact bstep hb.drew hb3)))
      have hB3w := bstep hb0 hB3
      clear a0 a1 af0 af1 b0 b1 bf0 bf1 afl bfl
      by_cases hin : T < p.1 + p.2.length ∧ T < q.1 + q.2.length
      · obtain ⟨hin1, hin2⟩ := hin
        have hjp : (T - p.1).toNat < p.2.length := by omega
        have hjq : (T - q.1).toNat < q.2.length := by omega
        have hP3 := hP0.keep hB3
        have hQ3 := hQ0.keep hB3
        have a0 : World.cell? w3 ⟨w.heap.size, 0, none⟩ = some (.int .i64 p.1) := hP3.cell 0
        have af0 := hP3.frozen 0
        have a1 : World.cell? w3 ⟨w.heap.size, 1, none⟩ = some (.slice A p.2.length c) := hP3.cell 1
        have af1 := hP3.frozen 1
        have afl := hP3.lt
        have b0 : World.cell? w3 ⟨w.heap.size + 1, 0, none⟩ = some (.int .i64 q.1) := hQ3.cell 0
        have bf0 := hQ3.frozen 0
        have b1 : World.cell? w3 ⟨w.heap.size + 1, 1, none⟩ = some (.slice B q.2.length d) := hQ3.cell 1
        have bf1 := hQ3.frozen 1
        have bfl := hQ3.lt
        obtain ⟨e1, off1, rfl, hlw1, hw1⟩ := (hx.keep hB3w).at2 hjp
        obtain ⟨e2, off2, rfl, hlw2, hw2⟩ := (hy.keep hB3w).at2 hjq
        have ex : p.2.getD (T - p.1).toNat 0 = sB p T := rfl
        have ey : q.2.getD (T - q.1).toNat 0 = sB q T := rfl
        rw [ex] at hw1
        rw [ey] at hw2
        clear ex ey
        have f1 : IntKind.i64.wrap (T - p.1) = T - p.1 := IntWalk.i64_in _ (by omega)
        have f2 : IntKind.i64.wrap (T - q.1) = T - q.1 := IntWalk.i64_in _ (by omega)
        have f3 : 0 ≤ T - p.1 := by omega
        have f4 : 0 ≤ T - q.1 := by omega
        have f5 : T - p.1 < p.2.length := by omega
        have f6 : T - q.1 < q.2.length := by omega
        have hcl : (∀ t, p.1 ≤ t → q.1 ≤ t → t < T + 1 → clash (sB p t) (sB q t) = false) ∨ clash (sB p T) (sB q T) = true := by
          cases hc : clash (sB p T) (sB q T) with
          | true => exact .inr rfl
          | false =>
            refine .inl (fun t h1 h2 h3 => ?_)
            by_cases ht : t < T
            · exact hall.out t h1 h2 ht
            · obtain rfl : t = T := by omega
              exact hc
        have HCL := Lib.hid hcl
        clear hcl
        have hno : clash (sB p T) (sB q T) = true → agB p q = false := by
          intro hc
          rw [← Bool.not_eq_true, agB_iff]
          intro h
          have := h T hT1 (by unfold endB; omega) hT2 (by unfold endB; omega)
          rw [hc] at this
          cases this
        have HNO := Lib.hid hno
        clear hno
        obtain ⟨X, hX⟩ : ∃ X, X = sB p T := ⟨_, rfl⟩
        obtain ⟨Y, hY⟩ : ∃ Y, Y = sB q T := ⟨_, rfl⟩
        rw [← hX] at hw1 HCL HNO
        rw [← hY] at hw2 HCL HNO
        clear hX hY
        have hways : ((X != 0) = false ∧ clash X Y = false) ∨ ((X != 0) = true ∧ (Y != 0) = false ∧ clash X Y = false) ∨ ((X != 0) = true ∧ (Y != 0) = true ∧ (X != Y) = false ∧ clash X Y = false) ∨ ((X != 0) = true ∧ (Y != 0) = true ∧ (X != Y) = true ∧ clash X Y = true) := by
          unfold clash
          cases (X != 0) <;> cases (Y != 0) <;> cases (X != Y) <;> simp
        rcases hways with ⟨h1, hc⟩ | ⟨h1, h2, hc⟩ | ⟨h1, h2, h3, hc⟩ | ⟨h1, h2, h3, hc⟩
        · have HC := Lib.hid hc
          clear hc
          go_wp2
          all_goals
            go_quiet (fail)
            go_wp2
            go_roundg (gk - 1)
            case rel => exact ⟨T + 1, n + 1, by have := HN.out; omega, by go_num, by omega, by omega, by omega, by omega, below_drewN hB3 _, Lib.hid (HCL.out.resolve_right (by rw [HC.out]; simp))⟩
            case measure => have := HN.out; omega
        · have HC := Lib.hid hc
          clear hc
          go_wp2
          all_goals
            go_quiet (fail)
            go_wp2
            go_roundg (gk - 1)
            case rel => exact ⟨T + 1, n + 1, by have := HN.out; omega, by go_num, by omega, by omega, by omega, by omega, below_drewN hB3 _, Lib.hid (HCL.out.resolve_right (by rw [HC.out]; simp))⟩
            case measure => have := HN.out; omega
        · have HC := Lib.hid hc
          clear hc
          go_wp2
          all_goals
            go_quiet (fail)
            go_wp2
            go_roundg (gk - 1)
            case rel => exact ⟨T + 1, n + 1, by have := HN.out; omega, by go_num, by omega, by omega, by omega, by omega, below_drewN hB3 _, Lib.hid (HCL.out.resolve_right (by rw [HC.out]; simp))⟩
            case measure => have := HN.out; omega
        · have HR := Lib.hid (HNO.out hc)
          clear hc
          go_wp2
          all_goals
            go_quiet (fail)
            go_wp2
            go_ret
            exact ⟨ret_bool HR.out.symm, below_drewN hB3w _⟩
      · have HR : Hid (agB p q = true) := Lib.hid (by
          rw [agB_iff]
          intro t h1 h2 h3 h4
          unfold endB at h2 h4
          exact hall.out t h1 h3 (by omega))
        go_wp2
        all_goals
          go_ret
          exact ⟨ret_bool HR.out.symm, hB3w⟩
end Go.Proofs.Ytbejkfeloffccaa
