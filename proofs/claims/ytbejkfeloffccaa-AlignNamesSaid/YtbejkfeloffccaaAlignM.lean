/-
  Contracts: align.all, fringeref14.agrees; that both ask the same.
-/
import Derived.Test.YtbejkfeloffccaaAlignL
namespace Go.Proofs.Ytbejkfeloffccaa
open Go.RowKit
set_option linter.unusedVariables false

def allAg (l : List (Int × List Int)) (p : Int × List Int) : Bool := l.all (fun b => agB b p)
theorem allAg_no {l : List (Int × List Int)} {p : Int × List Int} {k : Nat} (hk : k < l.length) (h : agB l[k] p = false) : allAg l p = false := by
  unfold allAg
  rw [List.all_eq_false]
  exact ⟨l[k], List.getElem_mem hk, by simp [h]⟩
theorem allAg_yes {l : List (Int × List Int)} {p : Int × List Int} (h : ∀ k (hk : k < l.length), agB l[k] p = true) : allAg l p = true := by
  unfold allAg
  rw [List.all_eq_true]
  intro b hb
  obtain ⟨k, hk, rfl⟩ := List.mem_iff_getElem.1 hb
  exact h k hk
set_option maxHeartbeats 4000000 in
theorem all_any (A : Option Addr) (c : Nat) (l : List (Int × List Int)) (p : Int × List Int) (B : Option Addr) (d : Nat) (w : World) (hx : RB w A l) (hy : RI .i64 w B p.2) (hA : Apart l) (hl : l.length ≤ 64) (hp : okB p = true) :
    Calls Try.prog 44 #[.slice A l.length c, .agg #[.int .i64 p.1, .slice B p.2.length d], .func (.func 45) #[] #[]] w fun e w' => e = .returned (.bool (allAg l p)) ∧ Below w.heap.size w w' := by
  have HA := Lib.hid hA
  have HP := Lib.hid hp
  clear hA hp
  have hP0 := Blk.new w 79 #[.int .i64 p.1, .slice B p.2.length d]
  have hb0 : Below w.heap.size w (w.alloc (.cells #[.int .i64 p.1, .slice B p.2.length d] 79)) := balloc (Below.refl _ _) _
  go_enter Try.func44, Try.ntmps44
  go_wp2
  go_loopg [8, 11] l.length (fun gk _ i wr => ∃ k : Nat, k + gk = l.length ∧ i = .int .i64 k ∧ Blk wr w.heap.size 79 #[.int .i64 p.1, .slice B p.2.length d] ∧ Below w.heap.size w wr ∧ Hid (∀ j (h : j < l.length), j < k → agB l[j] p = true))
  case atStart => exact ⟨0, by omega, rfl, hP0, hb0, Lib.hid (by intro j h h2; omega)⟩
  case round =>
    obtain ⟨k, hk, rfl, hP, hb, hall⟩ := hrel
    have hk' : k ≤ l.length := by omega
    have HK := Lib.hid hk
    clear hk
    have a0 : World.cell? wr ⟨w.heap.size, 0, none⟩ = some (.int .i64 p.1) := hP.cell 0
    have af0 := hP.frozen 0
    have a1 : World.cell? wr ⟨w.heap.size, 1, none⟩ = some (.slice B p.2.length d) := hP.cell 1
    have af1 := hP.frozen 1
    have afl := hP.lt
    by_cases hlt : k < l.length
    · obtain ⟨b1, off1, A1, c1, rfl, hlw, hw1, hw2, hr, hcap⟩ := hx.at_ hlt
      have hc1 := (hb.cell (p := ⟨b1, _, none⟩) hlw).trans hw1
      have hc2 := (hb.cell (p := ⟨b1, _, none⟩) hlw).trans hw2
      have hb' := balloc hb (.cells #[.int .i64 l[k].1, .slice A1 l[k].2.length c1] 47)
      have hP' := hP.alloc (.cells #[.int .i64 l[k].1, .slice A1 l[k].2.length c1] 47)
      go_wp2_with fail
      refine (agrees_any l[k] p A1 B c1 d _ (hr.keep hb') (hy.keep hb') (HA.out.1 k hlt) HP.out).mono ?_
      rintro _ w3 ⟨rfl, hb3⟩
      have hP3 := hP'.keep hb3
      have hB3 := bstep hb' hb3
      clear hc1 hc2
      by_cases hag : agB l[k] p = true
      · have HN : Hid (∀ j (h : j < l.length), j < k + 1 → agB l[j] p = true) := Lib.hid (by
          intro j h h2
          rcases Nat.lt_or_ge j k with h3 | h3
          · exact hall.out j h h3
          · obtain rfl : j = k := by omega
            exact hag)
        go_wp2
        go_roundg (gk - 1)
        case rel => exact ⟨k + 1, by have := HK.out; omega, by go_num, hP3, hB3, HN⟩
        case measure => have := HK.out; omega
      · have hag' : agB l[k] p = false := by simpa using hag
        have HN := Lib.hid (allAg_no hlt hag')
        clear hag
        go_wp2
        go_ret
        exact ⟨ret_bool HN.out.symm, hB3⟩
    · have HN : Hid (allAg l p = true) := Lib.hid (allAg_yes (fun j hj => hall.out j hj (by omega)))
      go_wp2
      go_ret
      exact ⟨ret_bool HN.out.symm, hb⟩

def refAg (l : List (Int × List Int)) (b : Int × List Int) : Bool := (List.range b.2.length).all (fun (k : Nat) => !clash (b.2.getD k 0) (sampAt l (b.1 + k)))
theorem refAg_no {l : List (Int × List Int)} {b : Int × List Int} {k : Nat} (hk : k < b.2.length) (h : clash (b.2.getD k 0) (sampAt l (b.1 + k)) = true) : refAg l b = false := by
  unfold refAg
  rw [List.all_eq_false]
  exact ⟨k, by simpa using hk, by rw [h]; simp⟩
theorem refAg_yes {l : List (Int × List Int)} {b : Int × List Int} (h : ∀ k, k < b.2.length → clash (b.2.getD k 0) (sampAt l (b.1 + k)) = false) : refAg l b = true := by
  unfold refAg
  rw [List.all_eq_true]
  intro k hk
  rw [h k (by simpa using hk)]
  rfl
theorem clash_comm (x y : Int) : clash x y = clash y x := by
  unfold clash
  rw [show (y != x) = (x != y) from bne_comm]
  cases (x != 0) <;> cases (y != 0) <;> rfl
/-- The sample of a recording where a block of it lies. -/
theorem sampAt_in {l : List (Int × List Int)} (h : Apart l) {j : Nat} (hj : j < l.length) {t : Int} (h1 : l[j].1 ≤ t) (h2 : t < endB l[j]) : sampAt l t = sB l[j] t := by
  refine sampAt_first hj (fun i hi hij => ?_) ⟨h1, h2⟩
  have := h.lt hij hj
  omega
theorem ag_same {l : List (Int × List Int)} (h : Apart l) (b : Int × List Int) : allAg l b = refAg l b := by
  rw [Bool.eq_iff_iff]
  constructor
  · intro h1
    apply refAg_yes
    intro k hk
    by_cases hex : ∃ j, ∃ hj : j < l.length, l[j].1 ≤ b.1 + k ∧ b.1 + k < endB l[j]
    · obtain ⟨j, hj, h2, h3⟩ := hex
      rw [sampAt_in h hj h2 h3, clash_comm]
      unfold allAg at h1
      rw [List.all_eq_true] at h1
      have h4 := (agB_iff _ _).1 (h1 _ (List.getElem_mem hj)) (b.1 + k) h2 h3 (by omega) (by unfold endB; omega)
      have e : sB b (b.1 + k) = b.2.getD k 0 := by unfold sB; congr 1; omega
      rwa [e] at h4
    · rw [sampAt_none (fun j hj hc => hex ⟨j, hj, hc⟩)]
      exact clash_y rfl
  · intro h1
    apply allAg_yes
    intro j hj
    rw [agB_iff]
    intro t h2 h3 h4 h5
    unfold refAg at h1
    rw [List.all_eq_true] at h1
    unfold endB at h5
    have h6 := h1 (t - b.1).toNat (by simp; omega)
    have e : b.1 + ((t - b.1).toNat : Int) = t := by omega
    rw [e, sampAt_in h hj h2 h3, clash_comm] at h6
    simpa [sB] using h6
set_option maxHeartbeats 4000000 in
theorem refAgrees_any (A : Option Addr) (c : Nat) (l : List (Int × List Int)) (b : Int × List Int) (B : Option Addr) (d : Nat) (w : World) (hx : RB w A l) (hy : RI .i64 w B b.2) (he : recErr l = 0) (hp : okB b = true) :
    Calls Try.prog 49 #[.slice A l.length c, .agg #[.int .i64 b.1, .slice B b.2.length d]] w fun e w' => e = .returned (.bool (refAg l b)) ∧ Below w.heap.size w w' := by
  obtain ⟨p1, p2, p3, p4, _⟩ := okB_bd hp
  have HE := Lib.hid he
  clear he hp
  have hP0 := Blk.new w 47 #[.int .i64 b.1, .slice B b.2.length d]
  have hb0 : Below w.heap.size w (w.alloc (.cells #[.int .i64 b.1, .slice B b.2.length d] 47)) := balloc (Below.refl _ _) _
  go_enter Try.func49, Try.ntmps49
  go_wp2
  go_loopg [5, 6] b.2.length (fun gk i _ wr => ∃ k : Nat, k + gk = b.2.length ∧ i = .int .i64 k ∧ Blk wr w.heap.size 47 #[.int .i64 b.1, .slice B b.2.length d] ∧ Below w.heap.size w wr ∧ Hid (∀ j, j < k → clash (b.2.getD j 0) (sampAt l (b.1 + j)) = false))
  case atStart => exact ⟨0, by omega, rfl, hP0, hb0, Lib.hid (by intro j h; omega)⟩
  case round =>
    obtain ⟨k, hk, rfl, hP, hb, hall⟩ := hrel
    have hk' : k ≤ b.2.length := by omega
    have HK := Lib.hid hk
    clear hk
    have a0 : World.cell? wr ⟨w.heap.size, 0, none⟩ = some (.int .i64 b.1) := hP.cell 0
    have af0 := hP.frozen 0
    have a1 : World.cell? wr ⟨w.heap.size, 1, none⟩ = some (.slice B b.2.length d) := hP.cell 1
    have af1 := hP.frozen 1
    have afl := hP.lt
    by_cases hlt : k < b.2.length
    · go_wp2_with fail
      refine (at14_low _ _ _ (b.1 + k) _ (hx.keep hb) HE.out (by omega)).mono ?_
      rintro _ w3 ⟨rfl, hb3⟩
      have hP3 := hP.keep hb3
      have hB3 := bstep hb hb3
      clear a0 a1 af0 af1 afl hb3
      have a0 : World.cell? w3 ⟨w.heap.size, 0, none⟩ = some (.int .i64 b.1) := hP3.cell 0
      have af0 := hP3.frozen 0
      have a1 : World.cell? w3 ⟨w.heap.size, 1, none⟩ = some (.slice B b.2.length d) := hP3.cell 1
      have af1 := hP3.frozen 1
      have afl := hP3.lt
      obtain ⟨e2, off2, rfl, hlw2, hw2⟩ := (hy.keep hB3).at2 hlt
      have HNO : Hid (clash (b.2.getD k 0) (sampAt l (b.1 + k)) = true → refAg l b = false) := Lib.hid (fun h => refAg_no hlt h)
      have HYES : Hid (clash (b.2.getD k 0) (sampAt l (b.1 + k)) = false → ∀ j, j < k + 1 → clash (b.2.getD j 0) (sampAt l (b.1 + j)) = false) := Lib.hid (fun h => all_lt_succ hall.out h)
      obtain ⟨X, hX⟩ : ∃ X, X = b.2.getD k 0 := ⟨_, rfl⟩
      obtain ⟨Y, hY⟩ : ∃ Y, Y = sampAt l (b.1 + k) := ⟨_, rfl⟩
      rw [← hX] at hw2 HNO HYES
      rw [← hY] at HNO HYES ⊢
      clear hX hY
      have hways : ((X != 0) = false ∧ clash X Y = false) ∨ ((X != 0) = true ∧ (Y != 0) = false ∧ clash X Y = false) ∨ ((X != 0) = true ∧ (Y != 0) = true ∧ (Y != X) = false ∧ clash X Y = false) ∨ ((X != 0) = true ∧ (Y != 0) = true ∧ (Y != X) = true ∧ clash X Y = true) := by
        unfold clash
        rw [show (Y != X) = (X != Y) from bne_comm]
        cases (X != 0) <;> cases (Y != 0) <;> cases (X != Y) <;> simp
      rcases hways with ⟨h1, hc⟩ | ⟨h1, h2, hc⟩ | ⟨h1, h2, h3, hc⟩ | ⟨h1, h2, h3, hc⟩
      · have HC := Lib.hid (HYES.out hc)
        clear hc
        go_wp2
        go_roundg (gk - 1)
        case rel => exact ⟨k + 1, by have := HK.out; omega, by go_num, hP3, hB3, HC⟩
        case measure => have := HK.out; omega
      · have HC := Lib.hid (HYES.out hc)
        clear hc
        go_wp2
        go_roundg (gk - 1)
        case rel => exact ⟨k + 1, by have := HK.out; omega, by go_num, hP3, hB3, HC⟩
        case measure => have := HK.out; omega
      · have HC := Lib.hid (HYES.out hc)
        clear hc
        go_wp2
        go_roundg (gk - 1)
        case rel => exact ⟨k + 1, by have := HK.out; omega, by go_num, hP3, hB3, HC⟩
        case measure => have := HK.out; omega
      · have HR := Lib.hid (HNO.out hc)
        clear hc
        go_wp2
        go_ret
        exact ⟨ret_bool HR.out.symm, hB3⟩
    · have HR : Hid (refAg l b = true) := Lib.hid (refAg_yes (fun j hj => hall.out j (by omega)))
      go_wp2
      go_ret
      exact ⟨ret_bool HR.out.symm, hb⟩
end Go.Proofs.Ytbejkfeloffccaa
