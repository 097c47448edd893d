/-
  Contracts of the reference: Check.
-/
import Derived.Test.YtjhigfhgchpjcaaAccM
namespace Go.Proofs.Ytjhigfhgchpjcaa
open Go.RowKit Runs Lagc
set_option linter.unusedVariables false
set_option linter.unusedSimpArgs false

theorem bad_s {a : Acc} (h : ¬ (511 < a.s.length ∨ 511 < a.n.length ∨ 64 < a.g.length)) {k : Nat} (hk : k < a.s.length) (hv : validB a.s[k] = false) : accErr a = 8 := by
  refine err_val h ?_
  rw [any_yes hk (show wrongB (-1000000000) a.s[k] = true by simpa [validB] using hv)]
  rfl
theorem wrong_n {c : Int × Int} (h : validB c = false ∨ val c < 0) : wrongB 0 c = true := by
  cases e : wrongB 0 c
  · exfalso
    have h2 := wrongB_no.1 e
    rcases h with h | h
    · have h3 : wrongB (-1000000000) c = true := by simpa [validB] using h
      rw [wrongB_no.2 ⟨h2.1, h2.2.1, by omega, h2.2.2.2⟩] at h3
      cases h3
    · unfold val at h
      omega
  · rfl
theorem bad_n {a : Acc} (h : ¬ (511 < a.s.length ∨ 511 < a.n.length ∨ 64 < a.g.length)) {k : Nat} (hk : k < a.n.length) (hv : validB a.n[k] = false ∨ val a.n[k] < 0) : accErr a = 8 := by
  refine err_val h ?_
  rw [any_yes hk (wrong_n hv)]
  simp
theorem right_n {c : Int × Int} (h : validB c = true) (h2 : ¬ val c < 0) : wrongB 0 c = false := by
  obtain ⟨h3, h4⟩ := validB_yes h
  rw [wrongB_no]
  unfold val at h2
  omega
set_option maxRecDepth 20000 in
set_option maxHeartbeats 2000000 in
theorem refCheck_any (S N G : Option Addr) (c1 c2 c3 : Nat) (a : Acc) (w : World) (hx : RA w S N G a) (l1 : a.s.length ≤ 140737488355328) (l2 : a.n.length ≤ 140737488355328) (l3 : a.g.length ≤ 140737488355328) (hg : ∀ x ∈ a.g, -9223372036854775808 ≤ x.1 ∧ x.1 ≤ 9223372036854775807) :
    Calls Try.prog 17 #[.agg #[.slice S a.s.length c1, .slice N a.n.length c2, .slice G a.g.length c3]] w fun e w' => e = .returned (.int .i64 (accErr a)) ∧ Below w.heap.size w w' := by
  have hb0 : Below w.heap.size w (w.alloc (.cells #[.slice S a.s.length c1, .slice N a.n.length c2, .slice G a.g.length c3] 25)) := balloc (Below.refl _ _) _
  have HR := fun w hx => refRuns_any G c3 a.g w hx l3 hg
  by_cases hm : 511 < a.s.length ∨ 511 < a.n.length ∨ 64 < a.g.length
  · have HM := Lib.hid (err_many hm)
    have d1 : 511 < a.s.length ∨ (¬ 511 < a.s.length ∧ 511 < a.n.length) ∨ (¬ 511 < a.s.length ∧ ¬ 511 < a.n.length ∧ 64 < a.g.length) := by omega
    clear hm
    rcases d1 with h1 | ⟨h1, h2⟩ | ⟨h1, h2, h3⟩
    all_goals
      go_enter Try.func17, Try.ntmps17
      go_wp2
      go_ret
      exact ⟨ret_int HM.out.symm, hb0⟩
  have HM := Lib.hid hm
  have m1 : a.s.length ≤ 511 := by omega
  have m2 : a.n.length ≤ 511 := by omega
  have m3 : a.g.length ≤ 64 := by omega
  clear hm
  by_cases hlen : a.s.length = a.n.length
  · have e1 : ((a.s.length : Int) != a.n.length) = false := by simp; omega
    have hle : a.s.length ≤ a.n.length := by omega
    have HL := Lib.hid hlen
    clear hlen
    by_cases hp : a.s.length % 2 = 0
    · have e2 : ((a.s.length : Int) % 2 != 1) = true := by simp; omega
      have HF := Lib.hid (err_form HM.out (.inr (.inl hp)))
      clear hp
      go_enter Try.func17, Try.ntmps17
      go_wp2
      go_ret
      exact ⟨ret_int HF.out.symm, hb0⟩
    have e2 : ((a.s.length : Int) % 2 != 1) = false := by simp; omega
    have HP := Lib.hid hp
    clear hp
    by_cases hr : runB a.g = true
    · rw [hr] at HR
      have HRN := Lib.hid hr
      clear hr
      have hk := Blk.new w 25 #[.slice S a.s.length c1, .slice N a.n.length c2, .slice G a.g.length c3]
      go_enter Try.func17, Try.ntmps17
      go_wp2_with fail
      refine (HR _ (hx.g.keep hb0)).mono ?_
      rintro _ w1 ⟨rfl, hb1⟩
      have hB1 := bstep hb0 hb1
      have hkW := hk.keep hb1
      have q0 : World.cell? w1 ⟨w.heap.size, 0, none⟩ = some (.slice S a.s.length c1) := hkW.cell 0
      have f0 := hkW.frozen 0
      have q1 : World.cell? w1 ⟨w.heap.size, 1, none⟩ = some (.slice N a.n.length c2) := hkW.cell 1
      have f1 := hkW.frozen 1
      have q2 : World.cell? w1 ⟨w.heap.size, 2, none⟩ = some (.slice G a.g.length c3) := hkW.cell 2
      have f2 := hkW.frozen 2
      have fl := hkW.lt
      go_wp2
      clear q0 q1 q2 f0 f1 f2 fl hkW
      replace hk := hk.keep hb1
      go_loopg [3] a.s.length (fun gk i wr => ∃ k : Nat, k + gk = a.s.length ∧ i = .int .i64 k ∧ Below w1.heap.size w1 wr ∧ Hid (∀ x ∈ a.s.take k, wrongB (-1000000000) x = false) ∧ Hid (∀ x ∈ a.n.take k, wrongB 0 x = false))
      case atStart => exact ⟨0, by omega, rfl, Below.refl _ _, Lib.hid (by simp), Lib.hid (by simp)⟩
      case round =>
        obtain ⟨k, hkk, rfl, hb, hs, hn⟩ := hrel
        have hk' : k ≤ a.s.length := by omega
        have HK := Lib.hid hkk
        clear hkk
        have hbw := bstep hB1 hb
        have hkW := hk.keep hb
        have q0 : World.cell? wr ⟨w.heap.size, 0, none⟩ = some (.slice S a.s.length c1) := hkW.cell 0
        have f0 := hkW.frozen 0
        have q1 : World.cell? wr ⟨w.heap.size, 1, none⟩ = some (.slice N a.n.length c2) := hkW.cell 1
        have f1 := hkW.frozen 1
        have q2 : World.cell? wr ⟨w.heap.size, 2, none⟩ = some (.slice G a.g.length c3) := hkW.cell 2
        have f2 := hkW.frozen 2
        have fl := hkW.lt
        by_cases hlt : k < a.s.length
        · have hlt2 := Nat.lt_of_lt_of_le hlt hle
          obtain ⟨b1, off1, e1', hl1, hc1, hd1⟩ := hx.s.at_ hlt
          obtain ⟨b2, off2, e2', hl2, hc2, hd2⟩ := hx.n.at_ hlt2
          subst e1'; subst e2'
          rw [getD_lt _ _ hlt] at hc1 hd1
          rw [getD_lt _ _ hlt2] at hc2 hd2
          have p1 := (hbw.cell (p := ⟨b1, _, none⟩) hl1).trans hc1
          have p2 := (hbw.cell (p := ⟨b1, _, none⟩) hl1).trans hd1
          have HV := fun w => valid_any a.s[k] w
          have HW := fun w => valid_any a.n[k] w
          by_cases v1 : validB a.s[k] = true
          · rw [v1] at HV
            have HS' := Lib.hid (takeAll_snoc (p := fun x => wrongB (-1000000000) x = false) hlt hs.out (by simpa [validB] using v1))
            clear v1
            by_cases v2 : validB a.n[k] = true
            · rw [v2] at HW
              have HZ := fun w => worth_any a.n[k] w (validB_yes v2)
              by_cases v3 : val a.n[k] < 0
              · have HE := Lib.hid (bad_n HM.out hlt2 (.inr v3))
                clear v2
                go_wp2_with fail
                refine (HV _).mono ?_
                rintro _ w2 ⟨rfl, hb2⟩
                have hb2w := bstep hb hb2
                have hB2 := bstep hbw hb2
                clear q0 q1 q2 f0 f1 f2 fl hkW
                have hkW := hk.keep hb2w
                have q0 : World.cell? w2 ⟨w.heap.size, 0, none⟩ = some (.slice (some ⟨b1, off1, none⟩) a.s.length c1) := hkW.cell 0
                have f0 := hkW.frozen 0
                have q1 : World.cell? w2 ⟨w.heap.size, 1, none⟩ = some (.slice (some ⟨b2, off2, none⟩) a.n.length c2) := hkW.cell 1
                have f1 := hkW.frozen 1
                have q2 : World.cell? w2 ⟨w.heap.size, 2, none⟩ = some (.slice G a.g.length c3) := hkW.cell 2
                have f2 := hkW.frozen 2
                have fl := hkW.lt
                have p3 := (hB2.cell (p := ⟨b2, _, none⟩) hl2).trans hc2
                have p4 := (hB2.cell (p := ⟨b2, _, none⟩) hl2).trans hd2
                go_wp2_with fail
                refine (HW _).mono ?_
                rintro _ w3 ⟨rfl, hb3⟩
                have hb3w := bstep hb2w hb3
                have hB3 := bstep hB2 hb3
                clear q0 q1 q2 f0 f1 f2 fl hkW
                have hkW := hk.keep hb3w
                have q0 : World.cell? w3 ⟨w.heap.size, 0, none⟩ = some (.slice (some ⟨b1, off1, none⟩) a.s.length c1) := hkW.cell 0
                have f0 := hkW.frozen 0
                have q1 : World.cell? w3 ⟨w.heap.size, 1, none⟩ = some (.slice (some ⟨b2, off2, none⟩) a.n.length c2) := hkW.cell 1
                have f1 := hkW.frozen 1
                have q2 : World.cell? w3 ⟨w.heap.size, 2, none⟩ = some (.slice G a.g.length c3) := hkW.cell 2
                have f2 := hkW.frozen 2
                have fl := hkW.lt
                have p5 := (hB3.cell (p := ⟨b2, _, none⟩) hl2).trans hc2
                have p6 := (hB3.cell (p := ⟨b2, _, none⟩) hl2).trans hd2
                go_wp2_with fail
                refine (HZ _).mono ?_
                rintro _ w4 ⟨rfl, hb4⟩
                go_wp2
                go_ret
                exact ⟨ret_int HE.out.symm, bstep hB3 hb4⟩
              · have HN' := Lib.hid (takeAll_snoc (p := fun x => wrongB 0 x = false) hlt2 hn.out (right_n v2 v3))
                clear v2
                go_wp2_with fail
                refine (HV _).mono ?_
                rintro _ w2 ⟨rfl, hb2⟩
                have hb2w := bstep hb hb2
                have hB2 := bstep hbw hb2
                clear q0 q1 q2 f0 f1 f2 fl hkW
                have hkW := hk.keep hb2w
                have q0 : World.cell? w2 ⟨w.heap.size, 0, none⟩ = some (.slice (some ⟨b1, off1, none⟩) a.s.length c1) := hkW.cell 0
                have f0 := hkW.frozen 0
                have q1 : World.cell? w2 ⟨w.heap.size, 1, none⟩ = some (.slice (some ⟨b2, off2, none⟩) a.n.length c2) := hkW.cell 1
                have f1 := hkW.frozen 1
                have q2 : World.cell? w2 ⟨w.heap.size, 2, none⟩ = some (.slice G a.g.length c3) := hkW.cell 2
                have f2 := hkW.frozen 2
                have fl := hkW.lt
                have p3 := (hB2.cell (p := ⟨b2, _, none⟩) hl2).trans hc2
                have p4 := (hB2.cell (p := ⟨b2, _, none⟩) hl2).trans hd2
                go_wp2_with fail
                refine (HW _).mono ?_
                rintro _ w3 ⟨rfl, hb3⟩
                have hb3w := bstep hb2w hb3
                have hB3 := bstep hB2 hb3
                clear q0 q1 q2 f0 f1 f2 fl hkW
                have hkW := hk.keep hb3w
                have q0 : World.cell? w3 ⟨w.heap.size, 0, none⟩ = some (.slice (some ⟨b1, off1, none⟩) a.s.length c1) := hkW.cell 0
                have f0 := hkW.frozen 0
                have q1 : World.cell? w3 ⟨w.heap.size, 1, none⟩ = some (.slice (some ⟨b2, off2, none⟩) a.n.length c2) := hkW.cell 1
                have f1 := hkW.frozen 1
                have q2 : World.cell? w3 ⟨w.heap.size, 2, none⟩ = some (.slice G a.g.length c3) := hkW.cell 2
                have f2 := hkW.frozen 2
                have fl := hkW.lt
                have p5 := (hB3.cell (p := ⟨b2, _, none⟩) hl2).trans hc2
                have p6 := (hB3.cell (p := ⟨b2, _, none⟩) hl2).trans hd2
                go_wp2_with fail
                refine (HZ _).mono ?_
                rintro _ w4 ⟨rfl, hb4⟩
                go_wp2
                go_roundg (gk - 1)
                case rel => exact ⟨k + 1, by have := HK.out; omega, by go_num, bstep hb3w hb4, HS', HN'⟩
                case measure => have := HK.out; omega
            · have v2' : validB a.n[k] = false := by simpa using v2
              rw [v2'] at HW
              have HE := Lib.hid (bad_n HM.out hlt2 (.inl v2'))
              clear v2 v2'
              go_wp2_with fail
              refine (HV _).mono ?_
              rintro _ w2 ⟨rfl, hb2⟩
              have hb2w := bstep hb hb2
              have hB2 := bstep hbw hb2
              clear q0 q1 q2 f0 f1 f2 fl hkW
              have hkW := hk.keep hb2w
              have q0 : World.cell? w2 ⟨w.heap.size, 0, none⟩ = some (.slice (some ⟨b1, off1, none⟩) a.s.length c1) := hkW.cell 0
              have f0 := hkW.frozen 0
              have q1 : World.cell? w2 ⟨w.heap.size, 1, none⟩ = some (.slice (some ⟨b2, off2, none⟩) a.n.length c2) := hkW.cell 1
              have f1 := hkW.frozen 1
              have q2 : World.cell? w2 ⟨w.heap.size, 2, none⟩ = some (.slice G a.g.length c3) := hkW.cell 2
              have f2 := hkW.frozen 2
              have fl := hkW.lt
              have p3 := (hB2.cell (p := ⟨b2, _, none⟩) hl2).trans hc2
              have p4 := (hB2.cell (p := ⟨b2, _, none⟩) hl2).trans hd2
              go_wp2_with fail
              refine (HW _).mono ?_
              rintro _ w3 ⟨rfl, hb3⟩
              go_wp2
              go_ret
              exact ⟨ret_int HE.out.symm, bstep hB2 hb3⟩
          · have v1' : validB a.s[k] = false := by simpa using v1
            rw [v1'] at HV
            have HE := Lib.hid (bad_s HM.out hlt v1')
            clear v1 v1'
            go_wp2_with fail
            refine (HV _).mono ?_
            rintro _ w2 ⟨rfl, hb2⟩
            go_wp2
            go_ret
            exact ⟨ret_int HE.out.symm, bstep hbw hb2⟩
        · go_wp2
          go_ret
          exact ⟨ret_int (err_ok HM.out HL.out HP.out HRN.out (any_no (takeAll_end (by omega) hs.out)) (any_no (takeAll_end (by have := HL.out; omega) hn.out))).symm, hbw⟩
    · have hr' : runB a.g = false := by simpa using hr
      rw [hr'] at HR
      have HF := Lib.hid (err_form HM.out (.inr (.inr hr')))
      clear hr hr'
      go_enter Try.func17, Try.ntmps17
      go_wp2_with fail
      refine (HR _ (hx.g.keep hb0)).mono ?_
      rintro _ w1 ⟨rfl, hb1⟩
      go_wp2
      go_ret
      exact ⟨ret_int HF.out.symm, bstep hb0 hb1⟩
  · have e1 : ((a.s.length : Int) != a.n.length) = true := by simp; omega
    have HF := Lib.hid (err_form HM.out (.inl hlen))
    clear hlen
    go_enter Try.func17, Try.ntmps17
    go_wp2
    go_ret
    exact ⟨ret_int HF.out.symm, hb0⟩
end Go.Proofs.Ytjhigfhgchpjcaa
