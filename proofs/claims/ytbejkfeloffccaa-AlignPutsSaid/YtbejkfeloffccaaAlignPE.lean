/-
  The walk of AlignPuts.
-/
import Derived.Test.YtbejkfeloffccaaAlignPD
namespace Go.Proofs.Ytbejkfeloffccaa
open Go.RowKit
set_option linter.unusedVariables false
set_option linter.unusedSimpArgs false

set_option maxRecDepth 100000 in
set_option maxHeartbeats 8000000 in
theorem alignPuts_walk (A : Option Addr) (c : Nat) (l : List (Int × List Int)) (p : Int × List Int) (B : Option Addr) (cb : Nat) (w : World)
    (hx : RB w A l) (hcap : l.length ≤ c) (hlx : l.length ≤ 9223372036854775807) (hp : RI .i64 w B p.2) (hlp : p.2.length ≤ 9223372036854775807) :
    Calls Try.prog 5 #[.slice A l.length c, .agg #[.int .i64 p.1, .slice B p.2.length cb]] w fun e w' => e = .returned (.bool true) ∧ Below w.heap.size w w' := by
  have hbX : Below w.heap.size w (w.alloc (.cells #[.int .i64 p.1, .slice B p.2.length cb] 47)) := balloc (Below.refl _ _) _
  have hQ0 := Blk.new w 47 #[.int .i64 p.1, .slice B p.2.length cb]
  have hGA := fun w hx => great_any A c l w hx hlx
  by_cases hg : greatB l = true
  · rw [hg] at hGA
    clear hg
    go_enter Try.func5, Try.ntmps5
    go_wp2_with fail
    refine (hGA _ (hx.keep hbX)).mono ?_
    rintro _ _ ⟨rfl, rfl⟩
    go_wp2
    go_ret
    exact ⟨rfl, hbX⟩
  have hg' : greatB l = false := by simpa using hg
  obtain ⟨g1, g2⟩ := great_no hg'
  rw [hg'] at hGA
  clear hg hg'
  have hall : ∀ b ∈ l, b.2.length ≤ 140737488355328 := fun b hb => Nat.le_trans (g1 b hb) (by omega)
  have hallS : ∀ b ∈ l, b.2.length ≤ 1000000 := fun b hb => Nat.le_trans (g1 b hb) (by omega)
  have HALL := Lib.hid hall
  have HALS := Lib.hid hallS
  clear g1 hall hallS
  have a0 : World.cell? (w.alloc (.cells #[.int .i64 p.1, .slice B p.2.length cb] 47)) ⟨w.heap.size, 0, none⟩ = some (.int .i64 p.1) := hQ0.cell 0
  have af0 := hQ0.frozen 0
  have a1 : World.cell? (w.alloc (.cells #[.int .i64 p.1, .slice B p.2.length cb] 47)) ⟨w.heap.size, 1, none⟩ = some (.slice B p.2.length cb) := hQ0.cell 1
  have af1 := hQ0.frozen 1
  have afl := hQ0.lt
  by_cases h3 : 300 < p.2.length
  · have d3 : decide (300 < p.2.length) = true := decide_eq_true h3
    have d4 : decide ((300 : Int) < (p.2.length : Int)) = true := decide_eq_true (by omega)
    clear h3
    go_enter Try.func5, Try.ntmps5
    go_wp2_with fail
    refine (hGA _ (hx.keep hbX)).mono ?_
    rintro _ _ ⟨rfl, rfl⟩
    go_wp2
    go_ret
    exact ⟨rfl, hbX⟩
  have d3 : decide (300 < p.2.length) = false := decide_eq_false h3
  have d4 : decide ((300 : Int) < (p.2.length : Int)) = false := decide_eq_false (by omega)
  go_enter Try.func5, Try.ntmps5
  go_wp2_with fail
  refine (hGA _ (hx.keep hbX)).mono ?_
  rintro _ _ ⟨rfl, rfl⟩
  go_wp2_with fail
  refine (Twin_made _ _ _ _ (hx.keep hbX) (by omega) HALS.out).mono ?_
  rintro _ w2 ⟨A2, c2, rfl, ro2, hc2, hb2, hov⟩
  have hB2 := bstep hbX hb2
  have hM0 : w.heap.size ≤ (w.alloc (.cells #[.int .i64 p.1, .slice B p.2.length cb] 47)).heap.size := by simp
  have hQ2 := hQ0.keep hb2
  have rb2 := ro2.rb
  generalize World.heap (w.alloc (.cells #[.int .i64 p.1, .slice B p.2.length cb] 47)) = H0 at hov hM0
  clear a0 a1 af0 af1 afl hQ0 hb2 ro2 hGA
  go_wp2_with fail
  refine (alignCount_any _ _ _ _ rb2 (by omega) HALL.out).mono ?_
  rintro _ w3 ⟨rfl, hb3⟩
  have hB3 := bstep hB2 hb3
  have hM3 := hb3.size
  replace rb2 := rb2.keep hb3
  replace hQ2 := hQ2.keep hb3
  have ho3 := hov.keep hb3
  clear hb3 hB2
  go_wp2_with fail
  refine (refCount14_any _ _ _ _ (hx.keep hB3) (by omega) HALL.out).mono ?_
  rintro _ w4 ⟨rfl, hb4⟩
  have hB4 := bstep hB3 hb4
  have hM4 := hb4.size
  replace rb2 := rb2.keep hb4
  replace hQ2 := hQ2.keep hb4
  replace ho3 := ho3.keep hb4
  clear hb4 hB3 hov
  have a0 : World.cell? w4 ⟨w.heap.size, 0, none⟩ = some (.int .i64 p.1) := hQ2.cell 0
  have af0 := hQ2.frozen 0
  have a1 : World.cell? w4 ⟨w.heap.size, 1, none⟩ = some (.slice B p.2.length cb) := hQ2.cell 1
  have af1 := hQ2.frozen 1
  have afl := hQ2.lt
  go_wp2_with fail
  refine (alignPut_any A2 c2 l p B cb _ rb2 hc2 (hp.keep hB4) (by omega) HALL.out (by omega)).mono ?_
  rintro _ w5 ⟨A5, c5, rfl, ro5, hc5, hb5⟩
  have hB5 := bstep hB4 hb5
  have hM5 := hb5.size
  have r5 := ro5.mono (base' := w2.heap.size) (by omega)
  replace rb2 := rb2.keep hb5
  replace hQ2 := hQ2.keep hb5
  replace ho3 := ho3.keep hb5
  clear hb5 hB4 ro5 a0 a1 af0 af1 afl
  have a0 : World.cell? w5 ⟨w.heap.size, 0, none⟩ = some (.int .i64 p.1) := hQ2.cell 0
  have af0 := hQ2.frozen 0
  have a1 : World.cell? w5 ⟨w.heap.size, 1, none⟩ = some (.slice B p.2.length cb) := hQ2.cell 1
  have af1 := hQ2.frozen 1
  have afl := hQ2.lt
  go_wp2_with fail
  refine (refPut_any A c l p B cb _ (hx.keep hB5) (hp.keep hB5) (by omega) HALL.out (by omega)).mono ?_
  rintro _ w6 ⟨A6, c6, rfl, ro6, hc6, hb6⟩
  have hB6 := bstep hB5 hb6
  have hM6 := hb6.size
  have r6 := ro6.mono (base' := w2.heap.size) (by omega)
  replace rb2 := rb2.keep hb6
  replace ho3 := ho3.keep hb6
  replace r5 := r5.keep hb6
  clear hb6 hB5 ro6 a0 a1 af0 af1 afl hQ2
  obtain ⟨s1, s2⟩ := put_small l p
  have HS2 := Lib.hid s2
  clear s2
  generalize putS l p = R at *
  generalize countS l = CC at *
  go_wp2_with fail
  refine (alignCheck_any _ _ _ _ rb2 (by omega) HALL.out).mono ?_
  rintro _ w7 ⟨rfl, hb7⟩
  have hB7 := bstep hB6 hb7
  replace rb2 := rb2.keep hb7
  replace ho3 := ho3.keep hb7
  replace r5 := r5.keep hb7
  replace r6 := r6.keep hb7
  clear hb7 hB6
  go_wp2_with fail
  refine (refCheck14_any _ _ _ _ (hx.keep hB7) (by omega) HALL.out).mono ?_
  rintro _ w8 ⟨rfl, hb8⟩
  have hB8 := bstep hB7 hb8
  replace rb2 := rb2.keep hb8
  replace ho3 := ho3.keep hb8
  replace r5 := r5.keep hb8
  replace r6 := r6.keep hb8
  clear hb8 hB7
  go_wp2_with fail
  refine (low_of (same14_any _ _ _ _ l l _ rb2 (hx.keep hB8) (by omega) (by omega) HALL.out HALL.out)).mono ?_
  rintro _ w9 ⟨rfl, hb9⟩
  have hB9 := bstep hB8 hb9
  replace ho3 := ho3.keep hb9
  replace r5 := r5.keep hb9
  replace r6 := r6.keep hb9
  clear hb9 hB8 rb2
  generalize recErr l = RE at *
  go_wp2
  go_loopg [15, 16] l.length (fun gk i _ wr => ∃ t : Nat, t + gk = l.length ∧ i = .int .i64 t ∧ OverK H0.size w2.heap.size A2 l.length wr ∧ RBo w2.heap.size wr A5 R.1 ∧ RBo w2.heap.size wr A6 R.1 ∧ Below w.heap.size w wr)
  case atStart => exact ⟨0, by omega, rfl, ho3, r5, r6, hB9⟩
  case round =>
    clear ho3 r5 r6 hB9
    obtain ⟨t, ht, rfl, hO, r5, r6, hb⟩ := hrel
    have ht' : t ≤ l.length := by omega
    have HKK := Lib.hid ht
    clear ht
    by_cases hlt : t < l.length
    · obtain ⟨g, raws, rfl, hgk, hrows⟩ := hO (by omega)
      obtain ⟨A9, n9, c9, e9, hn9, hG9⟩ := hrows t hlt
      have q0 := hgk.cell (t * 2 + 1)
      rw [e9] at q0
      have hgl := hgk.lt
      have HGT := Lib.hid (fun (W : World) (hO : OverK H0.size w2.heap.size (some ⟨g, 0, none⟩) l.length W) (e : W.cell? ⟨g, t * 2 + 1, none⟩ = some (.slice A9 n9 c9)) (h0 : 0 < n9) => show ∃ G cs raws, A9 = some ⟨G, 0, none⟩ ∧ H0.size ≤ G ∧ G < w2.heap.size ∧ Blk W G 3 cs ∧ n9 ≤ cs.size ∧ Blk W g 47 raws from by
        obtain ⟨g', raws', e', h1, h2⟩ := hO (by omega)
        injection e' with e'
        injection e' with e' _
        subst e'
        obtain ⟨A', n', c', h3, h4, h5⟩ := h2 t hlt
        rw [h1.cell, h3] at e
        injection e with e
        injection e with e e2 _
        subst e
        subst e2
        obtain ⟨G, cs, k1, k2, k3, k4, k5⟩ := h5 h0
        exact ⟨G, cs, raws', k1, k2, k3, k4, k5, h1⟩)
      obtain ⟨gu, rfl⟩ : ∃ gu : Nat, gu = gk := ⟨_, rfl⟩
      go_wp2
      go_loopg [16] n9 (fun gk i wr => ∃ x : Nat, x + gk = n9 ∧ i = .int .i64 x ∧ OverK H0.size w2.heap.size (some ⟨g, 0, none⟩) l.length wr ∧ RBo w2.heap.size wr A5 R.1 ∧ RBo w2.heap.size wr A6 R.1 ∧ Below w.heap.size w wr ∧ wr.cell? ⟨g, t * 2 + 1, none⟩ = some (.slice A9 n9 c9) ∧ g < wr.heap.size)
      case atStart => exact ⟨0, by omega, rfl, hO, r5, r6, hb, q0, hgl⟩
      case round =>
        clear hO r5 r6 hb q0 hgl hgk hrows e9 hG9
        obtain ⟨x, hx5, rfl, hO, r5, r6, hb, q0, hgl⟩ := hrel
        have hx5' : x ≤ n9 := by omega
        have HKX := Lib.hid hx5
        clear hx5
        by_cases hlx9 : x < n9
        · obtain ⟨G, cs6, raws6, rfl, hG1, hG4, hG2, hG3, hG5⟩ := HGT.out _ hO q0 (by omega)
          have z0 : wr.cell? ⟨G, x, none⟩ = some (cs6[x]'(by omega)) := by rw [hG2.cell]; exact Array.getElem?_eq_getElem (by omega)
          have z1 := hG2.frozen x
          have z2 := hG2.lt
          have q9 : (wr.setCell ⟨G, x, none⟩ (.int .i64 99)).cell? ⟨g, t * 2 + 1, none⟩ = some (.slice (some ⟨G, 0, none⟩) n9 c9) := by
            have hne : g ≠ G := blk_apart hG5 hG2 (by decide)
            rw [(hG5.far (p := ⟨G, x, none⟩) hne (.int .i64 99)).cell, ← hG5.cell]
            exact q0
          have hO9 := hO.store (x := x) hG2 (.int .i64 99)
          have s5 := r5.far (p := ⟨G, x, none⟩) hG4 (.int .i64 99)
          have s6 := r6.far (p := ⟨G, x, none⟩) hG4 (.int .i64 99)
          have sb := hb.setCell (p := ⟨G, x, none⟩) (Nat.le_trans hM0 hG1) (.int .i64 99)
          have sl : g < (wr.setCell ⟨G, x, none⟩ (.int .i64 99)).heap.size := by simpa using hgl
          go_wp2
          go_roundg (gk - 1)
          case rel => exact ⟨x + 1, by have := HKX.out; omega, by go_num, hO9, s5, s6, sb, q9, sl⟩
          case measure => have := HKX.out; omega
        · go_wp2
          go_roundg (gu - 1)
          case rel => exact ⟨t + 1, by have := HKK.out; omega, by go_num, hO, r5, r6, hb⟩
          case measure => have := HKK.out; omega
    · go_wp2_with fail
      refine (low_of (same14_any _ _ _ _ R.1 R.1 _ r5.rb r6.rb (by omega) (by omega) HS2.out HS2.out)).mono ?_
      rintro _ w10 ⟨rfl, hb10⟩
      go_wp2
      go_ret
      exact ⟨by simp, bstep hb hb10⟩
end Go.Proofs.Ytbejkfeloffccaa
