/-
  Contracts: accum.Check; counts: value, plus, countOf.
-/
import Derived.Test.YtjhigfhgchpjcaaAccB
namespace Go.Proofs.Ytjhigfhgchpjcaa
open Go.RowKit Runs Lagc
set_option linter.unusedVariables false
set_option linter.unusedSimpArgs false

theorem err_many {a : Acc} (h : 511 < a.s.length ∨ 511 < a.n.length ∨ 64 < a.g.length) : accErr a = 4 := by unfold accErr; rw [if_pos h]
theorem err_form {a : Acc} (h : ¬ (511 < a.s.length ∨ 511 < a.n.length ∨ 64 < a.g.length)) (h2 : a.s.length ≠ a.n.length ∨ a.s.length % 2 = 0 ∨ runB a.g = false) : accErr a = 8 := by unfold accErr; rw [if_neg h, if_pos h2]
theorem err_val {a : Acc} (h : ¬ (511 < a.s.length ∨ 511 < a.n.length ∨ 64 < a.g.length)) (h2 : (a.s.any (wrongB (-1000000000)) || a.n.any (wrongB 0)) = true) : accErr a = 8 := by
  unfold accErr; rw [if_neg h]
  split
  · rfl
  · first | rw [if_pos h2] | rfl
theorem err_ok {a : Acc} (h : ¬ (511 < a.s.length ∨ 511 < a.n.length ∨ 64 < a.g.length)) (h1 : a.s.length = a.n.length) (h2 : ¬ a.s.length % 2 = 0) (h3 : runB a.g = true) (h4 : a.s.any (wrongB (-1000000000)) = false) (h5 : a.n.any (wrongB 0) = false) : accErr a = 0 := by
  unfold accErr; rw [if_neg h, if_neg (by rw [h3]; simp; omega), h4, h5]; rfl

set_option maxHeartbeats 1000000 in
theorem accCheck_any (S N G : Option Addr) (c1 c2 c3 : Nat) (a : Acc) (w : World) (hx : RA w S N G a) (l1 : a.s.length ≤ 140737488355328) (l2 : a.n.length ≤ 140737488355328) (l3 : a.g.length ≤ 140737488355328) :
    Calls Try.prog 16 #[.agg #[.slice S a.s.length c1, .slice N a.n.length c2, .slice G a.g.length c3]] w fun e w' => e = .returned (.int .i64 (accErr a)) ∧ Below w.heap.size w w' := by
  have hb0 : Below w.heap.size w (w.alloc (.cells #[.slice S a.s.length c1, .slice N a.n.length c2, .slice G a.g.length c3] 25)) := balloc (Below.refl _ _) _
  by_cases hm : 511 < a.s.length ∨ 511 < a.n.length ∨ 64 < a.g.length
  · have HM := Lib.hid (err_many hm)
    have d1 : 511 < a.s.length ∨ (¬ 511 < a.s.length ∧ 511 < a.n.length) ∨ (¬ 511 < a.s.length ∧ ¬ 511 < a.n.length ∧ 64 < a.g.length) := by omega
    clear hm
    rcases d1 with h1 | ⟨h1, h2⟩ | ⟨h1, h2, h3⟩
    all_goals
      go_enter Try.func16, Try.ntmps16
      go_wp2
      go_ret
      exact ⟨ret_int HM.out.symm, hb0⟩
  have HM := Lib.hid hm
  have m1 : a.s.length ≤ 511 := by omega
  have m2 : a.n.length ≤ 511 := by omega
  have m3 : a.g.length ≤ 64 := by omega
  clear hm
  by_cases hlen : a.s.length = a.n.length
  · have e1 : ((a.s.length : Int) != a.n.length) = false := by simp; omega
    have HL := Lib.hid hlen
    clear hlen
    by_cases hp : a.s.length % 2 = 0
    · have e2 : ((a.s.length : Int) % 2 == 0) = true := by simp; omega
      have HF := Lib.hid (err_form HM.out (.inr (.inl hp)))
      clear hp
      go_enter Try.func16, Try.ntmps16
      go_wp2
      go_ret
      exact ⟨ret_int HF.out.symm, hb0⟩
    have e2 : ((a.s.length : Int) % 2 == 0) = false := by simp; omega
    have HP := Lib.hid hp
    clear hp
    have hBl := Blk.new w 25 #[.slice S a.s.length c1, .slice N a.n.length c2, .slice G a.g.length c3]
    have HR := fun w hx => areRuns_any G c3 a.g w hx l3
    by_cases hr : runB a.g = true
    · rw [hr] at HR
      have HRN := Lib.hid hr
      clear hr
      have hmf : ∀ (fn : Fn) (first cap : Array Value) (w : World), (Instr.makeFunc fn first cap).run Try.prog w = .ok (.func fn first cap) w := fun _ _ _ _ => rfl
      go_enter Try.func16, Try.ntmps16
      go_wp2_with fail
      refine (HR _ (hx.g.keep hb0)).mono ?_
      rintro _ w1 ⟨rfl, hb1⟩
      have hB1 := bstep hb0 hb1
      have hBl1 := hBl.keep hb1
      have q0 : World.cell? w1 ⟨w.heap.size, 0, none⟩ = some (.slice S a.s.length c1) := hBl1.cell 0
      have f0 := hBl1.frozen 0
      have q1 : World.cell? w1 ⟨w.heap.size, 1, none⟩ = some (.slice N a.n.length c2) := hBl1.cell 1
      have f1 := hBl1.frozen 1
      have q2 : World.cell? w1 ⟨w.heap.size, 2, none⟩ = some (.slice G a.g.length c3) := hBl1.cell 2
      have f2 := hBl1.frozen 2
      have fl := hBl1.lt
      have hls := hB1.size
      by_cases hs : a.s.any (wrongB (-1000000000)) = true
      · have HC := fun w g t hx hg => contains_any S c1 a.s (-1000000000) g t w hx l1 hg
        rw [hs] at HC
        have HV := Lib.hid (err_val HM.out (by rw [hs]; rfl))
        clear hs
        go_wp2_with fail
        refine (HC _ w1.heap.size 2 (hx.s.keep (hB1.alloc hls _)) (Blk.new w1 _ _)).mono ?_
        rintro _ w2 ⟨rfl, hb2⟩
        go_wp2
        go_ret
        exact ⟨ret_int HV.out.symm, bstep (hB1.alloc hls _) hb2⟩
      · have hs' : a.s.any (wrongB (-1000000000)) = false := by simpa using hs
        have HC := fun w g t hx hg => contains_any S c1 a.s (-1000000000) g t w hx l1 hg
        rw [hs'] at HC
        have HS := Lib.hid hs'
        clear hs hs'
        go_wp2_with fail
        refine (HC _ w1.heap.size 2 (hx.s.keep (hB1.alloc hls _)) (Blk.new w1 _ _)).mono ?_
        rintro _ w2 ⟨rfl, hb2⟩
        have hB2 := bstep (hB1.alloc hls _) hb2
        have hK := (Blk.new w1 2 #[.int .i64 (-1000000000)]).keep hb2
        have hBl2 := (hBl1.alloc (.cells #[.int .i64 (-1000000000)] 2)).keep hb2
        have p0 : World.cell? w2 ⟨w1.heap.size, 0, none⟩ = some (.int .i64 (-1000000000)) := hK.cell 0
        have pf0 := hK.frozen 0
        have pfl := hK.lt
        have r0 : World.cell? w2 ⟨w.heap.size, 0, none⟩ = some (.slice S a.s.length c1) := hBl2.cell 0
        have rf0 := hBl2.frozen 0
        have r1 : World.cell? w2 ⟨w.heap.size, 1, none⟩ = some (.slice N a.n.length c2) := hBl2.cell 1
        have rf1 := hBl2.frozen 1
        have r2 : World.cell? w2 ⟨w.heap.size, 2, none⟩ = some (.slice G a.g.length c3) := hBl2.cell 2
        have rf2 := hBl2.frozen 2
        have rfl := hBl2.lt
        have hne : ¬ w.heap.size = w1.heap.size := by omega
        have hK3 := hK.put 0 (.int .i64 0)
        have hB3 := hB2.setCell (p := ⟨w1.heap.size, 0, none⟩) hls (.int .i64 0)
        clear q0 q1 q2
        by_cases hn : a.n.any (wrongB 0) = true
        · have HD := fun w g t hx hg => contains_any N c2 a.n 0 g t w hx l2 hg
          rw [hn] at HD
          have HV := Lib.hid (err_val HM.out (by rw [hn]; simp))
          clear hn HC
          go_wp2_with fail
          refine (HD _ w1.heap.size 2 (hx.n.keep hB3) hK3).mono ?_
          rintro _ w3 ⟨rfl, hb3⟩
          go_wp2
          go_ret
          exact ⟨ret_int HV.out.symm, bstep hB3 hb3⟩
        · have hn' : a.n.any (wrongB 0) = false := by simpa using hn
          have HD := fun w g t hx hg => contains_any N c2 a.n 0 g t w hx l2 hg
          rw [hn'] at HD
          have HV := Lib.hid (err_ok HM.out HL.out HP.out HRN.out HS.out hn')
          clear hn hn' HC
          go_wp2_with fail
          refine (HD _ w1.heap.size 2 (hx.n.keep hB3) hK3).mono ?_
          rintro _ w3 ⟨rfl, hb3⟩
          go_wp2
          go_ret
          exact ⟨ret_int HV.out.symm, bstep hB3 hb3⟩
    · have hr' : runB a.g = false := by simpa using hr
      rw [hr'] at HR
      have HF := Lib.hid (err_form HM.out (.inr (.inr hr')))
      clear hr hr'
      go_enter Try.func16, Try.ntmps16
      go_wp2_with fail
      refine (HR _ (hx.g.keep hb0)).mono ?_
      rintro _ w1 ⟨rfl, hb1⟩
      go_wp2
      go_ret
      exact ⟨ret_int HF.out.symm, bstep hb0 hb1⟩
  · have e1 : ((a.s.length : Int) != a.n.length) = true := by simp; omega
    have HF := Lib.hid (err_form HM.out (.inl hlen))
    clear hlen
    go_enter Try.func16, Try.ntmps16
    go_wp2
    go_ret
    exact ⟨ret_int HF.out.symm, hb0⟩

end Go.Proofs.Ytjhigfhgchpjcaa
