/-
  The walk of AlignOrder.
-/
import Derived.Test.YtbejkfeloffccaaAlignY
import Derived.Test.YtbejkfeloffccaaAlignS
namespace Go.Proofs.Ytbejkfeloffccaa
open Go.RowKit
set_option linter.unusedVariables false
set_option linter.unusedSimpArgs false

theorem alignPut_at (r : List (Int × List Int) × Int) (A : Option Addr) (c : Nat) (l : List (Int × List Int)) (b : Int × List Int) (h : putS l b = r) (B : Option Addr) (d : Nat) (w : World) (hx : RB w A l) (hcap : l.length ≤ c) (hy : RI .i64 w B b.2) (hl : l.length ≤ 140737488355328) (hall : ∀ b ∈ l, b.2.length ≤ 140737488355328) (hlb : b.2.length ≤ 140737488355328) :
    Calls Try.prog 25 #[.slice A l.length c, .agg #[.int .i64 b.1, .slice B b.2.length d]] w (RetB w r) := by
  subst h; exact alignPut_any A c l b B d w hx hcap hy hl hall hlb
theorem alignWindow_at (r : List Int) (x : Int) (A : Option Addr) (c : Nat) (l : List (Int × List Int)) (a m : Int) (h : winSpec l a m = (r, x)) (w : World) (hx : RB w A l) (hl : l.length ≤ 140737488355328) (hall : ∀ b ∈ l, b.2.length ≤ 140737488355328) :
    Calls Try.prog 18 #[.slice A l.length c, .int .i64 a, .int .i64 m] w (RetI 3 w (r, x)) := by
  rw [← h]; exact alignWindow_any A c l a m w hx hl hall
theorem rec_small {l : List (Int × List Int)} (h : recErr l = 0) : l.length ≤ 64 ∧ ∀ b ∈ l, b.2.length ≤ 140737488355328 := by
  refine ⟨(recErr_zero h).1, fun b hb => ?_⟩
  obtain ⟨j, hj, rfl⟩ := List.mem_iff_getElem.1 hb
  have := rec_bd h j hj
  omega
set_option maxRecDepth 100000 in
set_option maxHeartbeats 8000000 in
theorem alignOrder_err (A : Option Addr) (c : Nat) (l : List (Int × List Int)) (p : Int × List Int) (B : Option Addr) (cb : Nat) (q : Int × List Int) (C : Option Addr) (cc : Nat) (a : Int) (w : World)
    (hx : RB w A l) (hcap : l.length ≤ c) (hlx : l.length ≤ 9223372036854775807) (hp : RI .i64 w B p.2) (hq : RI .i64 w C q.2) (hf : fitB l = true) (h3 : p.2.length ≤ 300) (h4 : q.2.length ≤ 300) (ha : 0 ≤ a ∧ a ≤ 1000000) (he : (putS l p).2 ≠ 0 ∨ (putS l q).2 ≠ 0) :
    Calls Try.prog 6 #[.slice A l.length c, .agg #[.int .i64 p.1, .slice B p.2.length cb], .agg #[.int .i64 q.1, .slice C q.2.length cc], .int .i64 a] w fun e w' => e = .returned (.bool true) ∧ Below w.heap.size w w' := by
  have hbX : Below w.heap.size w ((w.alloc (.cells #[.int .i64 p.1, .slice B p.2.length cb] 47)).alloc (.cells #[.int .i64 q.1, .slice C q.2.length cc] 47)) := balloc (balloc (Below.refl _ _) _) _
  have hk1 := (Blk.new w 47 #[.int .i64 p.1, .slice B p.2.length cb]).alloc (.cells #[.int .i64 q.1, .slice C q.2.length cc] 47)
  have hk2 := Blk.newAt (w := w.alloc (.cells #[.int .i64 p.1, .slice B p.2.length cb] 47)) (g := w.heap.size + 1) 47 #[.int .i64 q.1, .slice C q.2.length cc] (by simp)
  obtain ⟨hg, hr⟩ := fitB_yes hf
  obtain ⟨k1, k2⟩ := rec_small hr
  have d3 : decide (300 < p.2.length) = false := decide_eq_false (by omega)
  have d4 : decide (300 < q.2.length) = false := decide_eq_false (by omega)
  obtain ⟨R1, hR1⟩ : ∃ R, putS l p = R := ⟨_, rfl⟩
  obtain ⟨R2, hR2⟩ : ∃ R, putS l q = R := ⟨_, rfl⟩
  have HC1 := fun w hx hy => alignPut_at R1 A c l p hR1 B cb w hx hcap hy (by omega) k2 (by omega)
  have HC2 := fun w hx hy => alignPut_at R2 A c l q hR2 C cc w hx hcap hy (by omega) k2 (by omega)
  rw [hR1, hR2] at he
  clear hR1 hR2 k2 hg hr
  by_cases h1 : R1.2 = 0
  · have e2 : (R2.2 != 0) = true := by rcases he with h | h; exact absurd h1 h; simpa using h
    have e1 : (R1.2 != 0) = false := by simp [h1]
    clear h1 he
    go_enter Try.func6, Try.ntmps6
    go_wp2_with fail
    refine (alive14 _).mono ?_
    rintro _ w1 ⟨rfl, hb1⟩
    have hB1 := bstep hbX hb1
    replace hk1 := hk1.keep hb1
    replace hk2 := hk2.keep hb1
    try clear qa0 qa1 qb0 qb1 fa0 fa1 fb0 fb1 fal fbl
    have qa0 : World.cell? w1 ⟨w.heap.size, 0, none⟩ = some (.int .i64 p.1) := hk1.cell 0
    have fa0 := hk1.frozen 0
    have qa1 : World.cell? w1 ⟨w.heap.size, 1, none⟩ = some (.slice B p.2.length cb) := hk1.cell 1
    have fa1 := hk1.frozen 1
    have fal := hk1.lt
    have qb0 : World.cell? w1 ⟨(w.heap.size + 1), 0, none⟩ = some (.int .i64 q.1) := hk2.cell 0
    have fb0 := hk2.frozen 0
    have qb1 : World.cell? w1 ⟨(w.heap.size + 1), 1, none⟩ = some (.slice C q.2.length cc) := hk2.cell 1
    have fb1 := hk2.frozen 1
    have fbl := hk2.lt
    go_wp2_with fail
    refine (fit14_any _ _ _ _ (hx.keep hB1) hlx).mono ?_
    rintro _ w2 ⟨rfl, hb2⟩
    have hB2 := bstep hB1 hb2
    replace hk1 := hk1.keep hb2
    replace hk2 := hk2.keep hb2
    try clear qa0 qa1 qb0 qb1 fa0 fa1 fb0 fb1 fal fbl
    have qa0 : World.cell? w2 ⟨w.heap.size, 0, none⟩ = some (.int .i64 p.1) := hk1.cell 0
    have fa0 := hk1.frozen 0
    have qa1 : World.cell? w2 ⟨w.heap.size, 1, none⟩ = some (.slice B p.2.length cb) := hk1.cell 1
    have fa1 := hk1.frozen 1
    have fal := hk1.lt
    have qb0 : World.cell? w2 ⟨(w.heap.size + 1), 0, none⟩ = some (.int .i64 q.1) := hk2.cell 0
    have fb0 := hk2.frozen 0
    have qb1 : World.cell? w2 ⟨(w.heap.size + 1), 1, none⟩ = some (.slice C q.2.length cc) := hk2.cell 1
    have fb1 := hk2.frozen 1
    have fbl := hk2.lt
    clear hb1 hb2 hB1 hbX
    go_wp2_with fail
    refine (HC1 _ (hx.keep hB2) (hp.keep hB2)).mono ?_
    rintro _ w3 ⟨A3, c3, rfl, ro3, hcap3, hb3⟩
    have hB3 := bstep hB2 hb3
    have rb3 := ro3.rb
    replace hk1 := hk1.keep hb3
    replace hk2 := hk2.keep hb3
    try clear qa0 qa1 qb0 qb1 fa0 fa1 fb0 fb1 fal fbl
    have qa0 : World.cell? w3 ⟨w.heap.size, 0, none⟩ = some (.int .i64 p.1) := hk1.cell 0
    have fa0 := hk1.frozen 0
    have qa1 : World.cell? w3 ⟨w.heap.size, 1, none⟩ = some (.slice B p.2.length cb) := hk1.cell 1
    have fa1 := hk1.frozen 1
    have fal := hk1.lt
    have qb0 : World.cell? w3 ⟨(w.heap.size + 1), 0, none⟩ = some (.int .i64 q.1) := hk2.cell 0
    have fb0 := hk2.frozen 0
    have qb1 : World.cell? w3 ⟨(w.heap.size + 1), 1, none⟩ = some (.slice C q.2.length cc) := hk2.cell 1
    have fb1 := hk2.frozen 1
    have fbl := hk2.lt
    clear hb3 hB2 ro3
    go_wp2_with fail
    refine (HC2 _ (hx.keep hB3) (hq.keep hB3)).mono ?_
    rintro _ w4 ⟨A4, c4, rfl, ro4, hcap4, hb4⟩
    have hB4 := bstep hB3 hb4
    replace rb3 := rb3.keep hb4
    have rb4 := ro4.rb
    replace hk1 := hk1.keep hb4
    replace hk2 := hk2.keep hb4
    try clear qa0 qa1 qb0 qb1 fa0 fa1 fb0 fb1 fal fbl
    have qa0 : World.cell? w4 ⟨w.heap.size, 0, none⟩ = some (.int .i64 p.1) := hk1.cell 0
    have fa0 := hk1.frozen 0
    have qa1 : World.cell? w4 ⟨w.heap.size, 1, none⟩ = some (.slice B p.2.length cb) := hk1.cell 1
    have fa1 := hk1.frozen 1
    have fal := hk1.lt
    have qb0 : World.cell? w4 ⟨(w.heap.size + 1), 0, none⟩ = some (.int .i64 q.1) := hk2.cell 0
    have fb0 := hk2.frozen 0
    have qb1 : World.cell? w4 ⟨(w.heap.size + 1), 1, none⟩ = some (.slice C q.2.length cc) := hk2.cell 1
    have fb1 := hk2.frozen 1
    have fbl := hk2.lt
    clear hb4 hB3 ro4
    go_wp2
    go_ret
    exact ⟨rfl, hB4⟩
  · have e1 : (R1.2 != 0) = true := by simpa using h1
    clear h1 he
    go_enter Try.func6, Try.ntmps6
    go_wp2_with fail
    refine (alive14 _).mono ?_
    rintro _ w1 ⟨rfl, hb1⟩
    have hB1 := bstep hbX hb1
    replace hk1 := hk1.keep hb1
    replace hk2 := hk2.keep hb1
    try clear qa0 qa1 qb0 qb1 fa0 fa1 fb0 fb1 fal fbl
    have qa0 : World.cell? w1 ⟨w.heap.size, 0, none⟩ = some (.int .i64 p.1) := hk1.cell 0
    have fa0 := hk1.frozen 0
    have qa1 : World.cell? w1 ⟨w.heap.size, 1, none⟩ = some (.slice B p.2.length cb) := hk1.cell 1
    have fa1 := hk1.frozen 1
    have fal := hk1.lt
    have qb0 : World.cell? w1 ⟨(w.heap.size + 1), 0, none⟩ = some (.int .i64 q.1) := hk2.cell 0
    have fb0 := hk2.frozen 0
    have qb1 : World.cell? w1 ⟨(w.heap.size + 1), 1, none⟩ = some (.slice C q.2.length cc) := hk2.cell 1
    have fb1 := hk2.frozen 1
    have fbl := hk2.lt
    go_wp2_with fail
    refine (fit14_any _ _ _ _ (hx.keep hB1) hlx).mono ?_
    rintro _ w2 ⟨rfl, hb2⟩
    have hB2 := bstep hB1 hb2
    replace hk1 := hk1.keep hb2
    replace hk2 := hk2.keep hb2
    try clear qa0 qa1 qb0 qb1 fa0 fa1 fb0 fb1 fal fbl
    have qa0 : World.cell? w2 ⟨w.heap.size, 0, none⟩ = some (.int .i64 p.1) := hk1.cell 0
    have fa0 := hk1.frozen 0
    have qa1 : World.cell? w2 ⟨w.heap.size, 1, none⟩ = some (.slice B p.2.length cb) := hk1.cell 1
    have fa1 := hk1.frozen 1
    have fal := hk1.lt
    have qb0 : World.cell? w2 ⟨(w.heap.size + 1), 0, none⟩ = some (.int .i64 q.1) := hk2.cell 0
    have fb0 := hk2.frozen 0
    have qb1 : World.cell? w2 ⟨(w.heap.size + 1), 1, none⟩ = some (.slice C q.2.length cc) := hk2.cell 1
    have fb1 := hk2.frozen 1
    have fbl := hk2.lt
    clear hb1 hb2 hB1 hbX
    go_wp2_with fail
    refine (HC1 _ (hx.keep hB2) (hp.keep hB2)).mono ?_
    rintro _ w3 ⟨A3, c3, rfl, ro3, hcap3, hb3⟩
    have hB3 := bstep hB2 hb3
    have rb3 := ro3.rb
    replace hk1 := hk1.keep hb3
    replace hk2 := hk2.keep hb3
    try clear qa0 qa1 qb0 qb1 fa0 fa1 fb0 fb1 fal fbl
    have qa0 : World.cell? w3 ⟨w.heap.size, 0, none⟩ = some (.int .i64 p.1) := hk1.cell 0
    have fa0 := hk1.frozen 0
    have qa1 : World.cell? w3 ⟨w.heap.size, 1, none⟩ = some (.slice B p.2.length cb) := hk1.cell 1
    have fa1 := hk1.frozen 1
    have fal := hk1.lt
    have qb0 : World.cell? w3 ⟨(w.heap.size + 1), 0, none⟩ = some (.int .i64 q.1) := hk2.cell 0
    have fb0 := hk2.frozen 0
    have qb1 : World.cell? w3 ⟨(w.heap.size + 1), 1, none⟩ = some (.slice C q.2.length cc) := hk2.cell 1
    have fb1 := hk2.frozen 1
    have fbl := hk2.lt
    clear hb3 hB2 ro3
    go_wp2_with fail
    refine (HC2 _ (hx.keep hB3) (hq.keep hB3)).mono ?_
    rintro _ w4 ⟨A4, c4, rfl, ro4, hcap4, hb4⟩
    have hB4 := bstep hB3 hb4
    replace rb3 := rb3.keep hb4
    have rb4 := ro4.rb
    replace hk1 := hk1.keep hb4
    replace hk2 := hk2.keep hb4
    try clear qa0 qa1 qb0 qb1 fa0 fa1 fb0 fb1 fal fbl
    have qa0 : World.cell? w4 ⟨w.heap.size, 0, none⟩ = some (.int .i64 p.1) := hk1.cell 0
    have fa0 := hk1.frozen 0
    have qa1 : World.cell? w4 ⟨w.heap.size, 1, none⟩ = some (.slice B p.2.length cb) := hk1.cell 1
    have fa1 := hk1.frozen 1
    have fal := hk1.lt
    have qb0 : World.cell? w4 ⟨(w.heap.size + 1), 0, none⟩ = some (.int .i64 q.1) := hk2.cell 0
    have fb0 := hk2.frozen 0
    have qb1 : World.cell? w4 ⟨(w.heap.size + 1), 1, none⟩ = some (.slice C q.2.length cc) := hk2.cell 1
    have fb1 := hk2.frozen 1
    have fbl := hk2.lt
    clear hb4 hB3 ro4
    go_wp2
    go_ret
    exact ⟨rfl, hB4⟩
set_option maxRecDepth 100000 in
set_option maxHeartbeats 8000000 in
theorem alignOrder_main (A : Option Addr) (c : Nat) (l : List (Int × List Int)) (p : Int × List Int) (B : Option Addr) (cb : Nat) (q : Int × List Int) (C : Option Addr) (cc : Nat) (a : Int) (w : World)
    (hx : RB w A l) (hcap : l.length ≤ c) (hlx : l.length ≤ 9223372036854775807) (hp : RI .i64 w B p.2) (hq : RI .i64 w C q.2) (hf : fitB l = true) (h3 : p.2.length ≤ 300) (h4 : q.2.length ≤ 300) (ha : 0 ≤ a ∧ a ≤ 1000000) (he1 : (putS l p).2 = 0) (he2 : (putS l q).2 = 0) :
    Calls Try.prog 6 #[.slice A l.length c, .agg #[.int .i64 p.1, .slice B p.2.length cb], .agg #[.int .i64 q.1, .slice C q.2.length cc], .int .i64 a] w fun e w' => e = .returned (.bool true) ∧ Below w.heap.size w w' := by
  have hbX : Below w.heap.size w ((w.alloc (.cells #[.int .i64 p.1, .slice B p.2.length cb] 47)).alloc (.cells #[.int .i64 q.1, .slice C q.2.length cc] 47)) := balloc (balloc (Below.refl _ _) _) _
  have hk1 := (Blk.new w 47 #[.int .i64 p.1, .slice B p.2.length cb]).alloc (.cells #[.int .i64 q.1, .slice C q.2.length cc] 47)
  have hk2 := Blk.newAt (w := w.alloc (.cells #[.int .i64 p.1, .slice B p.2.length cb] 47)) (g := w.heap.size + 1) 47 #[.int .i64 q.1, .slice C q.2.length cc] (by simp)
  obtain ⟨hg, hr⟩ := fitB_yes hf
  obtain ⟨k1, k2⟩ := rec_small hr
  have d3 : decide (300 < p.2.length) = false := decide_eq_false (by omega)
  have d4 : decide (300 < q.2.length) = false := decide_eq_false (by omega)
  have HC1 := fun w hx hy => alignPut_at _ A c l p (put_inv he1).2.2.2.2.2 B cb w hx hcap hy (by omega) k2 (by omega)
  have HC2 := fun w hx hy => alignPut_at _ A c l q (put_inv he2).2.2.2.2.2 C cc w hx hcap hy (by omega) k2 (by omega)
  obtain ⟨x1, x2⟩ := rec_small (put_again he1).1
  obtain ⟨y1, y2⟩ := rec_small (put_again he2).1
  have htw := twice_law he1 he2
  have hor := order_law he1 he2
  clear he1 he2 k2 hg hr
  generalize putL l p = X at *
  generalize putL l q = Y at *
  have HX := Lib.hid x2
  have HY := Lib.hid y2
  clear x2 y2
  by_cases hok : (putS X q).2 = 0 ∧ (putS Y p).2 = 0
  · obtain ⟨g1, g2⟩ := hok
    have hUV := hor g1 g2
    obtain ⟨u1, u2⟩ := rec_small (put_again g1).1
    have hW := win_ok (a := a) (m := 256) (put_again g1).1 (winB_yes (a := a) (m := 256) (by omega))
    have HC3 := fun A c w hx hcap hy => alignPut_at _ A c X q (put_inv g1).2.2.2.2.2 C cc w hx hcap hy (by omega) HX.out (by omega)
    have HC4 := fun A c w hx hcap hy => alignPut_at _ A c Y p (put_inv g2).2.2.2.2.2 B cb w hx hcap hy (by omega) HY.out (by omega)
    rw [← hUV] at HC4
    clear g1 g2 hUV hor htw
    generalize putL X q = U at *
    have HW := fun A c w hx => alignWindow_at _ _ A c U a 256 hW w hx (by omega) u2
    have hlf : (fullL (winF U a) 256).length ≤ 300 := by rw [fullL_len]; omega
    generalize fullL (winF U a) 256 = V at *
    clear hW
    go_enter Try.func6, Try.ntmps6
    go_wp2_with fail
    refine (alive14 _).mono ?_
    rintro _ w1 ⟨rfl, hb1⟩
    have hB1 := bstep hbX hb1
    replace hk1 := hk1.keep hb1
    replace hk2 := hk2.keep hb1
    try clear qa0 qa1 qb0 qb1 fa0 fa1 fb0 fb1 fal fbl
    have qa0 : World.cell? w1 ⟨w.heap.size, 0, none⟩ = some (.int .i64 p.1) := hk1.cell 0
    have fa0 := hk1.frozen 0
    have qa1 : World.cell? w1 ⟨w.heap.size, 1, none⟩ = some (.slice B p.2.length cb) := hk1.cell 1
    have fa1 := hk1.frozen 1
    have fal := hk1.lt
    have qb0 : World.cell? w1 ⟨(w.heap.size + 1), 0, none⟩ = some (.int .i64 q.1) := hk2.cell 0
    have fb0 := hk2.frozen 0
    have qb1 : World.cell? w1 ⟨(w.heap.size + 1), 1, none⟩ = some (.slice C q.2.length cc) := hk2.cell 1
    have fb1 := hk2.frozen 1
    have fbl := hk2.lt
    go_wp2_with fail
    refine (fit14_any _ _ _ _ (hx.keep hB1) hlx).mono ?_
    rintro _ w2 ⟨rfl, hb2⟩
    have hB2 := bstep hB1 hb2
    replace hk1 := hk1.keep hb2
    replace hk2 := hk2.keep hb2
    try clear qa0 qa1 qb0 qb1 fa0 fa1 fb0 fb1 fal fbl
    have qa0 : World.cell? w2 ⟨w.heap.size, 0, none⟩ = some (.int .i64 p.1) := hk1.cell 0
    have fa0 := hk1.frozen 0
    have qa1 : World.cell? w2 ⟨w.heap.size, 1, none⟩ = some (.slice B p.2.length cb) := hk1.cell 1
    have fa1 := hk1.frozen 1
    have fal := hk1.lt
    have qb0 : World.cell? w2 ⟨(w.heap.size + 1), 0, none⟩ = some (.int .i64 q.1) := hk2.cell 0
    have fb0 := hk2.frozen 0
    have qb1 : World.cell? w2 ⟨(w.heap.size + 1), 1, none⟩ = some (.slice C q.2.length cc) := hk2.cell 1
    have fb1 := hk2.frozen 1
    have fbl := hk2.lt
    clear hb1 hb2 hB1 hbX
    go_wp2_with fail
    refine (HC1 _ (hx.keep hB2) (hp.keep hB2)).mono ?_
    rintro _ w3 ⟨A3, c3, rfl, ro3, hcap3, hb3⟩
    have hB3 := bstep hB2 hb3
    have rb3 := ro3.rb
    replace hk1 := hk1.keep hb3
    replace hk2 := hk2.keep hb3
    try clear qa0 qa1 qb0 qb1 fa0 fa1 fb0 fb1 fal fbl
    have qa0 : World.cell? w3 ⟨w.heap.size, 0, none⟩ = some (.int .i64 p.1) := hk1.cell 0
    have fa0 := hk1.frozen 0
    have qa1 : World.cell? w3 ⟨w.heap.size, 1, none⟩ = some (.slice B p.2.length cb) := hk1.cell 1
    have fa1 := hk1.frozen 1
    have fal := hk1.lt
    have qb0 : World.cell? w3 ⟨(w.heap.size + 1), 0, none⟩ = some (.int .i64 q.1) := hk2.cell 0
    have fb0 := hk2.frozen 0
    have qb1 : World.cell? w3 ⟨(w.heap.size + 1), 1, none⟩ = some (.slice C q.2.length cc) := hk2.cell 1
    have fb1 := hk2.frozen 1
    have fbl := hk2.lt
    clear hb3 hB2 ro3
    go_wp2_with fail
    refine (HC2 _ (hx.keep hB3) (hq.keep hB3)).mono ?_
    rintro _ w4 ⟨A4, c4, rfl, ro4, hcap4, hb4⟩
    have hB4 := bstep hB3 hb4
    replace rb3 := rb3.keep hb4
    have rb4 := ro4.rb
    replace hk1 := hk1.keep hb4
    replace hk2 := hk2.keep hb4
    try clear qa0 qa1 qb0 qb1 fa0 fa1 fb0 fb1 fal fbl
    have qa0 : World.cell? w4 ⟨w.heap.size, 0, none⟩ = some (.int .i64 p.1) := hk1.cell 0
    have fa0 := hk1.frozen 0
    have qa1 : World.cell? w4 ⟨w.heap.size, 1, none⟩ = some (.slice B p.2.length cb) := hk1.cell 1
    have fa1 := hk1.frozen 1
    have fal := hk1.lt
    have qb0 : World.cell? w4 ⟨(w.heap.size + 1), 0, none⟩ = some (.int .i64 q.1) := hk2.cell 0
    have fb0 := hk2.frozen 0
    have qb1 : World.cell? w4 ⟨(w.heap.size + 1), 1, none⟩ = some (.slice C q.2.length cc) := hk2.cell 1
    have fb1 := hk2.frozen 1
    have fbl := hk2.lt
    clear hb4 hB3 ro4
    go_wp2_with fail
    refine (HC3 _ _ _ rb3 hcap3 (hq.keep hB4)).mono ?_
    rintro _ w5 ⟨A5, c5, rfl, ro5, hcap5, hb5⟩
    have hB5 := bstep hB4 hb5
    replace rb4 := rb4.keep hb5
    have rb5 := ro5.rb
    replace hk1 := hk1.keep hb5
    replace hk2 := hk2.keep hb5
    try clear qa0 qa1 qb0 qb1 fa0 fa1 fb0 fb1 fal fbl
    have qa0 : World.cell? w5 ⟨w.heap.size, 0, none⟩ = some (.int .i64 p.1) := hk1.cell 0
    have fa0 := hk1.frozen 0
    have qa1 : World.cell? w5 ⟨w.heap.size, 1, none⟩ = some (.slice B p.2.length cb) := hk1.cell 1
    have fa1 := hk1.frozen 1
    have fal := hk1.lt
    have qb0 : World.cell? w5 ⟨(w.heap.size + 1), 0, none⟩ = some (.int .i64 q.1) := hk2.cell 0
    have fb0 := hk2.frozen 0
    have qb1 : World.cell? w5 ⟨(w.heap.size + 1), 1, none⟩ = some (.slice C q.2.length cc) := hk2.cell 1
    have fb1 := hk2.frozen 1
    have fbl := hk2.lt
    clear hb5 hB4 ro5 rb3
    go_wp2_with fail
    refine (HC4 _ _ _ rb4 hcap4 (hp.keep hB5)).mono ?_
    rintro _ w6 ⟨A6, c6, rfl, ro6, hcap6, hb6⟩
    have hB6 := bstep hB5 hb6
    replace rb5 := rb5.keep hb6
    have rb6 := ro6.rb
    replace hk1 := hk1.keep hb6
    replace hk2 := hk2.keep hb6
    try clear qa0 qa1 qb0 qb1 fa0 fa1 fb0 fb1 fal fbl
    have qa0 : World.cell? w6 ⟨w.heap.size, 0, none⟩ = some (.int .i64 p.1) := hk1.cell 0
    have fa0 := hk1.frozen 0
    have qa1 : World.cell? w6 ⟨w.heap.size, 1, none⟩ = some (.slice B p.2.length cb) := hk1.cell 1
    have fa1 := hk1.frozen 1
    have fal := hk1.lt
    have qb0 : World.cell? w6 ⟨(w.heap.size + 1), 0, none⟩ = some (.int .i64 q.1) := hk2.cell 0
    have fb0 := hk2.frozen 0
    have qb1 : World.cell? w6 ⟨(w.heap.size + 1), 1, none⟩ = some (.slice C q.2.length cc) := hk2.cell 1
    have fb1 := hk2.frozen 1
    have fbl := hk2.lt
    clear hb6 hB5 ro6 rb4
    go_wp2_with fail
    refine (HW _ _ _ rb5).mono ?_
    rintro _ w7 ⟨A7, c7, rfl, ro7, hb7⟩
    have hB7 := bstep hB6 hb7
    replace rb5 := rb5.keep hb7
    replace rb6 := rb6.keep hb7
    have r7 := own_RI ro7
    clear hb7 hB6 ro7 qa0 qa1 qb0 qb1 fa0 fa1 fb0 fb1 fal fbl
    go_wp2_with fail
    refine (HW _ _ _ rb6).mono ?_
    rintro _ w8 ⟨A8, c8, rfl, ro8, hb8⟩
    have hB8 := bstep hB7 hb8
    replace rb5 := rb5.keep hb8
    replace rb6 := rb6.keep hb8
    replace r7 := r7.keep hb8
    have r8 := own_RI ro8
    clear hb8 hB7 ro8
    have hdd : decide (V = V) = true := by simp
    have hdu : decide (U = U) = true := by simp
    go_wp2_with fail
    refine (same13_any _ _ _ _ V V _ r7 r8 (by omega) (by omega)).mono ?_
    rintro _ w9 ⟨rfl, n9, rfl⟩
    go_wp2_with fail
    refine (same14_any _ _ _ _ U U _ (rb5.keep (below_drewN (Below.refl _ _) _)) (rb6.keep (below_drewN (Below.refl _ _) _)) (by omega) (by omega) u2 u2).mono ?_
    rintro _ w10 ⟨rfl, n10, rfl⟩
    go_wp2
    go_ret
    exact ⟨rfl, by first | exact below_drewN hB8 _ | exact below_drewN (below_drewN hB8 _) _⟩
  · obtain ⟨R3, hR3⟩ : ∃ R, putS X q = R := ⟨_, rfl⟩
    obtain ⟨R4, hR4⟩ : ∃ R, putS Y p = R := ⟨_, rfl⟩
    have HC3 := fun A c w hx hcap hy => alignPut_at R3 A c X q hR3 C cc w hx hcap hy (by omega) HX.out (by omega)
    have HC4 := fun A c w hx hcap hy => alignPut_at R4 A c Y p hR4 B cb w hx hcap hy (by omega) HY.out (by omega)
    rw [hR3, hR4] at hok htw
    clear hR3 hR4 hor
    obtain ⟨l3, s3⟩ := R3
    obtain ⟨l4, s4⟩ := R4
    simp only at hok htw HC3 HC4
    have hways : (s3 = 14 ∧ s4 = 14) ∨ ((s3 != 14) = true ∧ (s4 != 14) = true ∧ (s3 != 0) = true) ∨ ((s3 != 14) = true ∧ (s4 != 14) = true ∧ (s3 != 0) = false ∧ (s4 != 0) = true) := by
      simp only [bne_iff_ne, bne_eq_false_iff_eq, ne_eq]
      by_cases h1 : s3 = 14
      · exact .inl ⟨h1, htw.1 h1⟩
      · have h2 : ¬ s4 = 14 := fun h => h1 (htw.2 h)
        by_cases h5 : s3 = 0
        · exact .inr (.inr ⟨h1, h2, h5, fun h => hok ⟨h5, h⟩⟩)
        · exact .inr (.inl ⟨h1, h2, h5⟩)
    clear hok htw
    rcases hways with ⟨rfl, rfl⟩ | ⟨m1, m2, m3⟩ | ⟨m1, m2, m3, m4⟩
    all_goals
      go_enter Try.func6, Try.ntmps6
      go_wp2_with fail
      refine (alive14 _).mono ?_
      rintro _ w1 ⟨rfl, hb1⟩
      have hB1 := bstep hbX hb1
      replace hk1 := hk1.keep hb1
      replace hk2 := hk2.keep hb1
      try clear qa0 qa1 qb0 qb1 fa0 fa1 fb0 fb1 fal fbl
      have qa0 : World.cell? w1 ⟨w.heap.size, 0, none⟩ = some (.int .i64 p.1) := hk1.cell 0
      have fa0 := hk1.frozen 0
      have qa1 : World.cell? w1 ⟨w.heap.size, 1, none⟩ = some (.slice B p.2.length cb) := hk1.cell 1
      have fa1 := hk1.frozen 1
      have fal := hk1.lt
      have qb0 : World.cell? w1 ⟨(w.heap.size + 1), 0, none⟩ = some (.int .i64 q.1) := hk2.cell 0
      have fb0 := hk2.frozen 0
      have qb1 : World.cell? w1 ⟨(w.heap.size + 1), 1, none⟩ = some (.slice C q.2.length cc) := hk2.cell 1
      have fb1 := hk2.frozen 1
      have fbl := hk2.lt
      go_wp2_with fail
      refine (fit14_any _ _ _ _ (hx.keep hB1) hlx).mono ?_
      rintro _ w2 ⟨rfl, hb2⟩
      have hB2 := bstep hB1 hb2
      replace hk1 := hk1.keep hb2
      replace hk2 := hk2.keep hb2
      try clear qa0 qa1 qb0 qb1 fa0 fa1 fb0 fb1 fal fbl
      have qa0 : World.cell? w2 ⟨w.heap.size, 0, none⟩ = some (.int .i64 p.1) := hk1.cell 0
      have fa0 := hk1.frozen 0
      have qa1 : World.cell? w2 ⟨w.heap.size, 1, none⟩ = some (.slice B p.2.length cb) := hk1.cell 1
      have fa1 := hk1.frozen 1
      have fal := hk1.lt
      have qb0 : World.cell? w2 ⟨(w.heap.size + 1), 0, none⟩ = some (.int .i64 q.1) := hk2.cell 0
      have fb0 := hk2.frozen 0
      have qb1 : World.cell? w2 ⟨(w.heap.size + 1), 1, none⟩ = some (.slice C q.2.length cc) := hk2.cell 1
      have fb1 := hk2.frozen 1
      have fbl := hk2.lt
      clear hb1 hb2 hB1 hbX
      go_wp2_with fail
      refine (HC1 _ (hx.keep hB2) (hp.keep hB2)).mono ?_
      rintro _ w3 ⟨A3, c3, rfl, ro3, hcap3, hb3⟩
      have hB3 := bstep hB2 hb3
      have rb3 := ro3.rb
      replace hk1 := hk1.keep hb3
      replace hk2 := hk2.keep hb3
      try clear qa0 qa1 qb0 qb1 fa0 fa1 fb0 fb1 fal fbl
      have qa0 : World.cell? w3 ⟨w.heap.size, 0, none⟩ = some (.int .i64 p.1) := hk1.cell 0
      have fa0 := hk1.frozen 0
      have qa1 : World.cell? w3 ⟨w.heap.size, 1, none⟩ = some (.slice B p.2.length cb) := hk1.cell 1
      have fa1 := hk1.frozen 1
      have fal := hk1.lt
      have qb0 : World.cell? w3 ⟨(w.heap.size + 1), 0, none⟩ = some (.int .i64 q.1) := hk2.cell 0
      have fb0 := hk2.frozen 0
      have qb1 : World.cell? w3 ⟨(w.heap.size + 1), 1, none⟩ = some (.slice C q.2.length cc) := hk2.cell 1
      have fb1 := hk2.frozen 1
      have fbl := hk2.lt
      clear hb3 hB2 ro3
      go_wp2_with fail
      refine (HC2 _ (hx.keep hB3) (hq.keep hB3)).mono ?_
      rintro _ w4 ⟨A4, c4, rfl, ro4, hcap4, hb4⟩
      have hB4 := bstep hB3 hb4
      replace rb3 := rb3.keep hb4
      have rb4 := ro4.rb
      replace hk1 := hk1.keep hb4
      replace hk2 := hk2.keep hb4
      try clear qa0 qa1 qb0 qb1 fa0 fa1 fb0 fb1 fal fbl
      have qa0 : World.cell? w4 ⟨w.heap.size, 0, none⟩ = some (.int .i64 p.1) := hk1.cell 0
      have fa0 := hk1.frozen 0
      have qa1 : World.cell? w4 ⟨w.heap.size, 1, none⟩ = some (.slice B p.2.length cb) := hk1.cell 1
      have fa1 := hk1.frozen 1
      have fal := hk1.lt
      have qb0 : World.cell? w4 ⟨(w.heap.size + 1), 0, none⟩ = some (.int .i64 q.1) := hk2.cell 0
      have fb0 := hk2.frozen 0
      have qb1 : World.cell? w4 ⟨(w.heap.size + 1), 1, none⟩ = some (.slice C q.2.length cc) := hk2.cell 1
      have fb1 := hk2.frozen 1
      have fbl := hk2.lt
      clear hb4 hB3 ro4
      go_wp2_with fail
      refine (HC3 _ _ _ rb3 hcap3 (hq.keep hB4)).mono ?_
      rintro _ w5 ⟨A5, c5, rfl, ro5, hcap5, hb5⟩
      have hB5 := bstep hB4 hb5
      replace rb4 := rb4.keep hb5
      replace hk1 := hk1.keep hb5
      replace hk2 := hk2.keep hb5
      try clear qa0 qa1 qb0 qb1 fa0 fa1 fb0 fb1 fal fbl
      have qa0 : World.cell? w5 ⟨w.heap.size, 0, none⟩ = some (.int .i64 p.1) := hk1.cell 0
      have fa0 := hk1.frozen 0
      have qa1 : World.cell? w5 ⟨w.heap.size, 1, none⟩ = some (.slice B p.2.length cb) := hk1.cell 1
      have fa1 := hk1.frozen 1
      have fal := hk1.lt
      have qb0 : World.cell? w5 ⟨(w.heap.size + 1), 0, none⟩ = some (.int .i64 q.1) := hk2.cell 0
      have fb0 := hk2.frozen 0
      have qb1 : World.cell? w5 ⟨(w.heap.size + 1), 1, none⟩ = some (.slice C q.2.length cc) := hk2.cell 1
      have fb1 := hk2.frozen 1
      have fbl := hk2.lt
      clear hb5 hB4 ro5 rb3
      go_wp2_with fail
      refine (HC4 _ _ _ rb4 hcap4 (hp.keep hB5)).mono ?_
      rintro _ w6 ⟨A6, c6, rfl, ro6, hcap6, hb6⟩
      have hB6 := bstep hB5 hb6
      go_wp2
      go_ret
      exact ⟨rfl, hB6⟩
set_option maxRecDepth 100000 in
set_option maxHeartbeats 8000000 in
theorem alignOrder_walk (A : Option Addr) (c : Nat) (l : List (Int × List Int)) (p : Int × List Int) (B : Option Addr) (cb : Nat) (q : Int × List Int) (C : Option Addr) (cc : Nat) (a : Int) (w : World)
    (hx : RB w A l) (hcap : l.length ≤ c) (hlx : l.length ≤ 9223372036854775807) (hp : RI .i64 w B p.2) (hlp : p.2.length ≤ 9223372036854775807) (hq : RI .i64 w C q.2) (hlq : q.2.length ≤ 9223372036854775807) (_ : -9223372036854775808 ≤ a ∧ a ≤ 9223372036854775807) :
    Calls Try.prog 6 #[.slice A l.length c, .agg #[.int .i64 p.1, .slice B p.2.length cb], .agg #[.int .i64 q.1, .slice C q.2.length cc], .int .i64 a] w fun e w' => e = .returned (.bool true) ∧ Below w.heap.size w w' := by
  by_cases hf : fitB l = true
  · by_cases h3 : p.2.length ≤ 300
    · by_cases h4 : q.2.length ≤ 300
      · by_cases ha : 0 ≤ a ∧ a ≤ 1000000
        · by_cases he : (putS l p).2 = 0 ∧ (putS l q).2 = 0
          · exact alignOrder_main A c l p B cb q C cc a w hx hcap hlx hp hq hf h3 h4 ha he.1 he.2
          · refine alignOrder_err A c l p B cb q C cc a w hx hcap hlx hp hq hf h3 h4 ha ?_
            by_cases h : (putS l p).2 = 0
            · exact .inr fun h2 => he ⟨h, h2⟩
            · exact .inl h
        · have d3 : decide (300 < p.2.length) = false := decide_eq_false (by omega)
          have d4 : decide (300 < q.2.length) = false := decide_eq_false (by omega)
          have hbX : Below w.heap.size w ((w.alloc (.cells #[.int .i64 p.1, .slice B p.2.length cb] 47)).alloc (.cells #[.int .i64 q.1, .slice C q.2.length cc] 47)) := balloc (balloc (Below.refl _ _) _) _
          have hk1 := (Blk.new w 47 #[.int .i64 p.1, .slice B p.2.length cb]).alloc (.cells #[.int .i64 q.1, .slice C q.2.length cc] 47)
          have hk2 := Blk.newAt (w := w.alloc (.cells #[.int .i64 p.1, .slice B p.2.length cb] 47)) (g := w.heap.size + 1) 47 #[.int .i64 q.1, .slice C q.2.length cc] (by simp)
          rcases (show a < 0 ∨ (0 ≤ a ∧ 1000000 < a) by omega) with ha | ha
          all_goals
            go_enter Try.func6, Try.ntmps6
            go_wp2_with fail
            refine (alive14 _).mono ?_
            rintro _ w1 ⟨rfl, hb1⟩
            have hB1 := bstep hbX hb1
            replace hk1 := hk1.keep hb1
            replace hk2 := hk2.keep hb1
            try clear qa0 qa1 qb0 qb1 fa0 fa1 fb0 fb1 fal fbl
            have qa0 : World.cell? w1 ⟨w.heap.size, 0, none⟩ = some (.int .i64 p.1) := hk1.cell 0
            have fa0 := hk1.frozen 0
            have qa1 : World.cell? w1 ⟨w.heap.size, 1, none⟩ = some (.slice B p.2.length cb) := hk1.cell 1
            have fa1 := hk1.frozen 1
            have fal := hk1.lt
            have qb0 : World.cell? w1 ⟨(w.heap.size + 1), 0, none⟩ = some (.int .i64 q.1) := hk2.cell 0
            have fb0 := hk2.frozen 0
            have qb1 : World.cell? w1 ⟨(w.heap.size + 1), 1, none⟩ = some (.slice C q.2.length cc) := hk2.cell 1
            have fb1 := hk2.frozen 1
            have fbl := hk2.lt
            go_wp2_with fail
            refine (fit14_any _ _ _ _ (hx.keep hB1) hlx).mono ?_
            rintro _ w2 ⟨rfl, hb2⟩
            have hB2 := bstep hB1 hb2
            replace hk1 := hk1.keep hb2
            replace hk2 := hk2.keep hb2
            try clear qa0 qa1 qb0 qb1 fa0 fa1 fb0 fb1 fal fbl
            have qa0 : World.cell? w2 ⟨w.heap.size, 0, none⟩ = some (.int .i64 p.1) := hk1.cell 0
            have fa0 := hk1.frozen 0
            have qa1 : World.cell? w2 ⟨w.heap.size, 1, none⟩ = some (.slice B p.2.length cb) := hk1.cell 1
            have fa1 := hk1.frozen 1
            have fal := hk1.lt
            have qb0 : World.cell? w2 ⟨(w.heap.size + 1), 0, none⟩ = some (.int .i64 q.1) := hk2.cell 0
            have fb0 := hk2.frozen 0
            have qb1 : World.cell? w2 ⟨(w.heap.size + 1), 1, none⟩ = some (.slice C q.2.length cc) := hk2.cell 1
            have fb1 := hk2.frozen 1
            have fbl := hk2.lt
            clear hb1 hb2 hB1 hbX
            go_wp2
            go_ret
            exact ⟨rfl, hB2⟩
      · have d3 : decide (300 < p.2.length) = false := decide_eq_false (by omega)
        have d4 : decide (300 < q.2.length) = true := decide_eq_true (by omega)
        have hbX : Below w.heap.size w ((w.alloc (.cells #[.int .i64 p.1, .slice B p.2.length cb] 47)).alloc (.cells #[.int .i64 q.1, .slice C q.2.length cc] 47)) := balloc (balloc (Below.refl _ _) _) _
        have hk1 := (Blk.new w 47 #[.int .i64 p.1, .slice B p.2.length cb]).alloc (.cells #[.int .i64 q.1, .slice C q.2.length cc] 47)
        have hk2 := Blk.newAt (w := w.alloc (.cells #[.int .i64 p.1, .slice B p.2.length cb] 47)) (g := w.heap.size + 1) 47 #[.int .i64 q.1, .slice C q.2.length cc] (by simp)
        go_enter Try.func6, Try.ntmps6
        go_wp2_with fail
        refine (alive14 _).mono ?_
        rintro _ w1 ⟨rfl, hb1⟩
        have hB1 := bstep hbX hb1
        replace hk1 := hk1.keep hb1
        replace hk2 := hk2.keep hb1
        try clear qa0 qa1 qb0 qb1 fa0 fa1 fb0 fb1 fal fbl
        have qa0 : World.cell? w1 ⟨w.heap.size, 0, none⟩ = some (.int .i64 p.1) := hk1.cell 0
        have fa0 := hk1.frozen 0
        have qa1 : World.cell? w1 ⟨w.heap.size, 1, none⟩ = some (.slice B p.2.length cb) := hk1.cell 1
        have fa1 := hk1.frozen 1
        have fal := hk1.lt
        have qb0 : World.cell? w1 ⟨(w.heap.size + 1), 0, none⟩ = some (.int .i64 q.1) := hk2.cell 0
        have fb0 := hk2.frozen 0
        have qb1 : World.cell? w1 ⟨(w.heap.size + 1), 1, none⟩ = some (.slice C q.2.length cc) := hk2.cell 1
        have fb1 := hk2.frozen 1
        have fbl := hk2.lt
        go_wp2_with fail
        refine (fit14_any _ _ _ _ (hx.keep hB1) hlx).mono ?_
        rintro _ w2 ⟨rfl, hb2⟩
        have hB2 := bstep hB1 hb2
        replace hk1 := hk1.keep hb2
        replace hk2 := hk2.keep hb2
        try clear qa0 qa1 qb0 qb1 fa0 fa1 fb0 fb1 fal fbl
        have qa0 : World.cell? w2 ⟨w.heap.size, 0, none⟩ = some (.int .i64 p.1) := hk1.cell 0
        have fa0 := hk1.frozen 0
        have qa1 : World.cell? w2 ⟨w.heap.size, 1, none⟩ = some (.slice B p.2.length cb) := hk1.cell 1
        have fa1 := hk1.frozen 1
        have fal := hk1.lt
        have qb0 : World.cell? w2 ⟨(w.heap.size + 1), 0, none⟩ = some (.int .i64 q.1) := hk2.cell 0
        have fb0 := hk2.frozen 0
        have qb1 : World.cell? w2 ⟨(w.heap.size + 1), 1, none⟩ = some (.slice C q.2.length cc) := hk2.cell 1
        have fb1 := hk2.frozen 1
        have fbl := hk2.lt
        clear hb1 hb2 hB1 hbX
        go_wp2
        go_ret
        exact ⟨rfl, hB2⟩
    · have d3 : decide (300 < p.2.length) = true := decide_eq_true (by omega)
      have hbX : Below w.heap.size w ((w.alloc (.cells #[.int .i64 p.1, .slice B p.2.length cb] 47)).alloc (.cells #[.int .i64 q.1, .slice C q.2.length cc] 47)) := balloc (balloc (Below.refl _ _) _) _
      have hk1 := (Blk.new w 47 #[.int .i64 p.1, .slice B p.2.length cb]).alloc (.cells #[.int .i64 q.1, .slice C q.2.length cc] 47)
      have hk2 := Blk.newAt (w := w.alloc (.cells #[.int .i64 p.1, .slice B p.2.length cb] 47)) (g := w.heap.size + 1) 47 #[.int .i64 q.1, .slice C q.2.length cc] (by simp)
      go_enter Try.func6, Try.ntmps6
      go_wp2_with fail
      refine (alive14 _).mono ?_
      rintro _ w1 ⟨rfl, hb1⟩
      have hB1 := bstep hbX hb1
      replace hk1 := hk1.keep hb1
      replace hk2 := hk2.keep hb1
      try clear qa0 qa1 qb0 qb1 fa0 fa1 fb0 fb1 fal fbl
      have qa0 : World.cell? w1 ⟨w.heap.size, 0, none⟩ = some (.int .i64 p.1) := hk1.cell 0
      have fa0 := hk1.frozen 0
      have qa1 : World.cell? w1 ⟨w.heap.size, 1, none⟩ = some (.slice B p.2.length cb) := hk1.cell 1
      have fa1 := hk1.frozen 1
      have fal := hk1.lt
      have qb0 : World.cell? w1 ⟨(w.heap.size + 1), 0, none⟩ = some (.int .i64 q.1) := hk2.cell 0
      have fb0 := hk2.frozen 0
      have qb1 : World.cell? w1 ⟨(w.heap.size + 1), 1, none⟩ = some (.slice C q.2.length cc) := hk2.cell 1
      have fb1 := hk2.frozen 1
      have fbl := hk2.lt
      go_wp2_with fail
      refine (fit14_any _ _ _ _ (hx.keep hB1) hlx).mono ?_
      rintro _ w2 ⟨rfl, hb2⟩
      have hB2 := bstep hB1 hb2
      replace hk1 := hk1.keep hb2
      replace hk2 := hk2.keep hb2
      try clear qa0 qa1 qb0 qb1 fa0 fa1 fb0 fb1 fal fbl
      have qa0 : World.cell? w2 ⟨w.heap.size, 0, none⟩ = some (.int .i64 p.1) := hk1.cell 0
      have fa0 := hk1.frozen 0
      have qa1 : World.cell? w2 ⟨w.heap.size, 1, none⟩ = some (.slice B p.2.length cb) := hk1.cell 1
      have fa1 := hk1.frozen 1
      have fal := hk1.lt
      have qb0 : World.cell? w2 ⟨(w.heap.size + 1), 0, none⟩ = some (.int .i64 q.1) := hk2.cell 0
      have fb0 := hk2.frozen 0
      have qb1 : World.cell? w2 ⟨(w.heap.size + 1), 1, none⟩ = some (.slice C q.2.length cc) := hk2.cell 1
      have fb1 := hk2.frozen 1
      have fbl := hk2.lt
      clear hb1 hb2 hB1 hbX
      go_wp2
      go_ret
      exact ⟨rfl, hB2⟩
  · have hf2 : fitB l = false := by simpa using hf
    clear hf
    have hbX : Below w.heap.size w ((w.alloc (.cells #[.int .i64 p.1, .slice B p.2.length cb] 47)).alloc (.cells #[.int .i64 q.1, .slice C q.2.length cc] 47)) := balloc (balloc (Below.refl _ _) _) _
    have hk1 := (Blk.new w 47 #[.int .i64 p.1, .slice B p.2.length cb]).alloc (.cells #[.int .i64 q.1, .slice C q.2.length cc] 47)
    have hk2 := Blk.newAt (w := w.alloc (.cells #[.int .i64 p.1, .slice B p.2.length cb] 47)) (g := w.heap.size + 1) 47 #[.int .i64 q.1, .slice C q.2.length cc] (by simp)
    go_enter Try.func6, Try.ntmps6
    go_wp2_with fail
    refine (alive14 _).mono ?_
    rintro _ w1 ⟨rfl, hb1⟩
    have hB1 := bstep hbX hb1
    replace hk1 := hk1.keep hb1
    replace hk2 := hk2.keep hb1
    try clear qa0 qa1 qb0 qb1 fa0 fa1 fb0 fb1 fal fbl
    have qa0 : World.cell? w1 ⟨w.heap.size, 0, none⟩ = some (.int .i64 p.1) := hk1.cell 0
    have fa0 := hk1.frozen 0
    have qa1 : World.cell? w1 ⟨w.heap.size, 1, none⟩ = some (.slice B p.2.length cb) := hk1.cell 1
    have fa1 := hk1.frozen 1
    have fal := hk1.lt
    have qb0 : World.cell? w1 ⟨(w.heap.size + 1), 0, none⟩ = some (.int .i64 q.1) := hk2.cell 0
    have fb0 := hk2.frozen 0
    have qb1 : World.cell? w1 ⟨(w.heap.size + 1), 1, none⟩ = some (.slice C q.2.length cc) := hk2.cell 1
    have fb1 := hk2.frozen 1
    have fbl := hk2.lt
    go_wp2_with fail
    refine (fit14_any _ _ _ _ (hx.keep hB1) hlx).mono ?_
    rintro _ w2 ⟨rfl, hb2⟩
    have hB2 := bstep hB1 hb2
    replace hk1 := hk1.keep hb2
    replace hk2 := hk2.keep hb2
    try clear qa0 qa1 qb0 qb1 fa0 fa1 fb0 fb1 fal fbl
    have qa0 : World.cell? w2 ⟨w.heap.size, 0, none⟩ = some (.int .i64 p.1) := hk1.cell 0
    have fa0 := hk1.frozen 0
    have qa1 : World.cell? w2 ⟨w.heap.size, 1, none⟩ = some (.slice B p.2.length cb) := hk1.cell 1
    have fa1 := hk1.frozen 1
    have fal := hk1.lt
    have qb0 : World.cell? w2 ⟨(w.heap.size + 1), 0, none⟩ = some (.int .i64 q.1) := hk2.cell 0
    have fb0 := hk2.frozen 0
    have qb1 : World.cell? w2 ⟨(w.heap.size + 1), 1, none⟩ = some (.slice C q.2.length cc) := hk2.cell 1
    have fb1 := hk2.frozen 1
    have fbl := hk2.lt
    clear hb1 hb2 hB1 hbX
    go_wp2
    go_ret
    exact ⟨rfl, hB2⟩
end Go.Proofs.Ytbejkfeloffccaa
