/-
  The walk of AlignOnce, where a guard returns, or Put has an error.
-/
import Derived.Test.YtbejkfeloffccaaAlignOA
namespace Go.Proofs.Ytbejkfeloffccaa
open Go.RowKit
set_option linter.unusedVariables false
set_option linter.unusedSimpArgs false

set_option maxRecDepth 100000 in
set_option maxHeartbeats 8000000 in
theorem alignOnce_walk (A : Option Addr) (c : Nat) (l : List (Int × List Int)) (p : Int × List Int) (B : Option Addr) (cb : Nat) (t : Int) (w : World)
    (hx : RB w A l) (hcap : l.length ≤ c) (hlx : l.length ≤ 9223372036854775807) (hp : RI .i64 w B p.2) (hlp : p.2.length ≤ 9223372036854775807) (ht : -9223372036854775808 ≤ t ∧ t ≤ 9223372036854775807) :
    Calls Try.prog 7 #[.slice A l.length c, .agg #[.int .i64 p.1, .slice B p.2.length cb], .int .i64 t] w fun e w' => e = .returned (.bool true) ∧ Below w.heap.size w w' := by
  by_cases hf : fitB l = true
  · by_cases h3 : p.2.length ≤ 300
    · have d3 : decide (300 < p.2.length) = false := decide_eq_false (by omega)
      cases hok : okB (p.1, p.2) with
      | true =>
        by_cases he : (putS l p).2 = 0
        · exact alignOnce_main A c l p B cb t w hx hcap hlx hp hf h3 hok ht he
        · obtain ⟨hg, hr⟩ := fitB_yes hf
          obtain ⟨k1, k2⟩ := rec_small hr
          obtain ⟨x, hx0⟩ : ∃ x, putS l p = ([], x) := ⟨(putS l p).2, Prod.ext (put_len0 he) rfl⟩
          have HC1 := fun w hx hy => alignPut_at _ A c l p hx0 B cb w hx hcap hy (by omega) k2 (by omega)
          have e1 : (x != 0) = true := by rw [hx0] at he; simpa using he
          clear he hx0 hg hr k2
          have hbX : Below w.heap.size w (w.alloc (.cells #[.int .i64 p.1, .slice B p.2.length cb] 47)) := balloc (Below.refl _ _) _
          have hk1 := Blk.new w 47 #[.int .i64 p.1, .slice B p.2.length cb]
          go_enter Try.func7, Try.ntmps7
          go_wp2_with fail
          refine (alive14 _).mono ?_
          rintro _ w1 ⟨rfl, hb1⟩
          have hB1 := bstep hbX hb1
          replace hk1 := hk1.keep hb1
          try clear qa0 qa1 fa0 fa1 fal
          have qa0 : World.cell? w1 ⟨w.heap.size, 0, none⟩ = some (.int .i64 p.1) := hk1.cell 0
          have fa0 := hk1.frozen 0
          have qa1 : World.cell? w1 ⟨w.heap.size, 1, none⟩ = some (.slice B p.2.length cb) := hk1.cell 1
          have fa1 := hk1.frozen 1
          have fal := hk1.lt
          go_wp2_with fail
          refine (fit14_any _ _ _ _ (hx.keep hB1) hlx).mono ?_
          rintro _ w2 ⟨rfl, hb2⟩
          have hB2 := bstep hB1 hb2
          replace hk1 := hk1.keep hb2
          try clear qa0 qa1 fa0 fa1 fal
          have qa0 : World.cell? w2 ⟨w.heap.size, 0, none⟩ = some (.int .i64 p.1) := hk1.cell 0
          have fa0 := hk1.frozen 0
          have qa1 : World.cell? w2 ⟨w.heap.size, 1, none⟩ = some (.slice B p.2.length cb) := hk1.cell 1
          have fa1 := hk1.frozen 1
          have fal := hk1.lt
          clear hb1 hb2 hB1 hbX
          go_wp2_with fail
          refine (Valid_any _ _ _ _ _ (hp.keep hB2) (by omega)).mono ?_
          rintro _ w2' ⟨rfl, hb2'⟩
          have hB2' := bstep hB2 hb2'
          replace hk1 := hk1.keep hb2'
          try clear qa0 qa1 fa0 fa1 fal
          have qa0 : World.cell? w2' ⟨w.heap.size, 0, none⟩ = some (.int .i64 p.1) := hk1.cell 0
          have fa0 := hk1.frozen 0
          have qa1 : World.cell? w2' ⟨w.heap.size, 1, none⟩ = some (.slice B p.2.length cb) := hk1.cell 1
          have fa1 := hk1.frozen 1
          have fal := hk1.lt
          clear hb2' hB2
          go_wp2_with fail
          refine (HC1 _ (hx.keep hB2') (hp.keep hB2')).mono ?_
          rintro _ w3 ⟨A3, c3, rfl, ro3, hcap3, hb3⟩
          go_wp2
          go_ret
          exact ⟨rfl, bstep hB2' hb3⟩
      | false =>
        have hbX : Below w.heap.size w (w.alloc (.cells #[.int .i64 p.1, .slice B p.2.length cb] 47)) := balloc (Below.refl _ _) _
        have hk1 := Blk.new w 47 #[.int .i64 p.1, .slice B p.2.length cb]
        go_enter Try.func7, Try.ntmps7
        go_wp2_with fail
        refine (alive14 _).mono ?_
        rintro _ w1 ⟨rfl, hb1⟩
        have hB1 := bstep hbX hb1
        replace hk1 := hk1.keep hb1
        try clear qa0 qa1 fa0 fa1 fal
        have qa0 : World.cell? w1 ⟨w.heap.size, 0, none⟩ = some (.int .i64 p.1) := hk1.cell 0
        have fa0 := hk1.frozen 0
        have qa1 : World.cell? w1 ⟨w.heap.size, 1, none⟩ = some (.slice B p.2.length cb) := hk1.cell 1
        have fa1 := hk1.frozen 1
        have fal := hk1.lt
        go_wp2_with fail
        refine (fit14_any _ _ _ _ (hx.keep hB1) hlx).mono ?_
        rintro _ w2 ⟨rfl, hb2⟩
        have hB2 := bstep hB1 hb2
        replace hk1 := hk1.keep hb2
        try clear qa0 qa1 fa0 fa1 fal
        have qa0 : World.cell? w2 ⟨w.heap.size, 0, none⟩ = some (.int .i64 p.1) := hk1.cell 0
        have fa0 := hk1.frozen 0
        have qa1 : World.cell? w2 ⟨w.heap.size, 1, none⟩ = some (.slice B p.2.length cb) := hk1.cell 1
        have fa1 := hk1.frozen 1
        have fal := hk1.lt
        clear hb1 hb2 hB1 hbX
        go_wp2_with fail
        refine (Valid_any _ _ _ _ _ (hp.keep hB2) (by omega)).mono ?_
        rintro _ w2' ⟨rfl, hb2'⟩
        have hB2' := bstep hB2 hb2'
        replace hk1 := hk1.keep hb2'
        try clear qa0 qa1 fa0 fa1 fal
        have qa0 : World.cell? w2' ⟨w.heap.size, 0, none⟩ = some (.int .i64 p.1) := hk1.cell 0
        have fa0 := hk1.frozen 0
        have qa1 : World.cell? w2' ⟨w.heap.size, 1, none⟩ = some (.slice B p.2.length cb) := hk1.cell 1
        have fa1 := hk1.frozen 1
        have fal := hk1.lt
        clear hb2' hB2
        go_wp2
        go_ret
        exact ⟨rfl, hB2'⟩
    · have d3 : decide (300 < p.2.length) = true := decide_eq_true (by omega)
      have hbX : Below w.heap.size w (w.alloc (.cells #[.int .i64 p.1, .slice B p.2.length cb] 47)) := balloc (Below.refl _ _) _
      have hk1 := Blk.new w 47 #[.int .i64 p.1, .slice B p.2.length cb]
      go_enter Try.func7, Try.ntmps7
      go_wp2_with fail
      refine (alive14 _).mono ?_
      rintro _ w1 ⟨rfl, hb1⟩
      have hB1 := bstep hbX hb1
      replace hk1 := hk1.keep hb1
      try clear qa0 qa1 fa0 fa1 fal
      have qa0 : World.cell? w1 ⟨w.heap.size, 0, none⟩ = some (.int .i64 p.1) := hk1.cell 0
      have fa0 := hk1.frozen 0
      have qa1 : World.cell? w1 ⟨w.heap.size, 1, none⟩ = some (.slice B p.2.length cb) := hk1.cell 1
      have fa1 := hk1.frozen 1
      have fal := hk1.lt
      go_wp2_with fail
      refine (fit14_any _ _ _ _ (hx.keep hB1) hlx).mono ?_
      rintro _ w2 ⟨rfl, hb2⟩
      have hB2 := bstep hB1 hb2
      replace hk1 := hk1.keep hb2
      try clear qa0 qa1 fa0 fa1 fal
      have qa0 : World.cell? w2 ⟨w.heap.size, 0, none⟩ = some (.int .i64 p.1) := hk1.cell 0
      have fa0 := hk1.frozen 0
      have qa1 : World.cell? w2 ⟨w.heap.size, 1, none⟩ = some (.slice B p.2.length cb) := hk1.cell 1
      have fa1 := hk1.frozen 1
      have fal := hk1.lt
      clear hb1 hb2 hB1 hbX
      go_wp2
      go_ret
      exact ⟨rfl, hB2⟩
  · have hf2 : fitB l = false := by simpa using hf
    clear hf
    have hbX : Below w.heap.size w (w.alloc (.cells #[.int .i64 p.1, .slice B p.2.length cb] 47)) := balloc (Below.refl _ _) _
    have hk1 := Blk.new w 47 #[.int .i64 p.1, .slice B p.2.length cb]
    go_enter Try.func7, Try.ntmps7
    go_wp2_with fail
    refine (alive14 _).mono ?_
    rintro _ w1 ⟨rfl, hb1⟩
    have hB1 := bstep hbX hb1
    replace hk1 := hk1.keep hb1
    try clear qa0 qa1 fa0 fa1 fal
    have qa0 : World.cell? w1 ⟨w.heap.size, 0, none⟩ = some (.int .i64 p.1) := hk1.cell 0
    have fa0 := hk1.frozen 0
    have qa1 : World.cell? w1 ⟨w.heap.size, 1, none⟩ = some (.slice B p.2.length cb) := hk1.cell 1
    have fa1 := hk1.frozen 1
    have fal := hk1.lt
    go_wp2_with fail
    refine (fit14_any _ _ _ _ (hx.keep hB1) hlx).mono ?_
    rintro _ w2 ⟨rfl, hb2⟩
    have hB2 := bstep hB1 hb2
    replace hk1 := hk1.keep hb2
    try clear qa0 qa1 fa0 fa1 fal
    have qa0 : World.cell? w2 ⟨w.heap.size, 0, none⟩ = some (.int .i64 p.1) := hk1.cell 0
    have fa0 := hk1.frozen 0
    have qa1 : World.cell? w2 ⟨w.heap.size, 1, none⟩ = some (.slice B p.2.length cb) := hk1.cell 1
    have fa1 := hk1.frozen 1
    have fal := hk1.lt
    clear hb1 hb2 hB1 hbX
    go_wp2
    go_ret
    exact ⟨rfl, hB2⟩
end Go.Proofs.Ytbejkfeloffccaa
