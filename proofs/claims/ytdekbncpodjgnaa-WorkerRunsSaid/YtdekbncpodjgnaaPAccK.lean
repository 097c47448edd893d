/-
  Contracts of the reference: Great, Valid, Worth, meet, counted, Runs, In, Check.
  Contracts of the reference: Runs, In, Check.
  Contracts of the reference: Check.
-/
import Derived.Test.YtdekbncpodjgnaaAccJ
namespace Go.Proofs.Ytdekbncpodjgnaa
open Go.RowKit Runs Lagc
set_option linter.unusedVariables false
set_option linter.unusedSimpArgs false

def greatB (a : Acc) : Bool := decide (600 < a.s.length ∨ 600 < a.n.length ∨ 100 < a.g.length)
theorem great_any (S N G : Option Addr) (c1 c2 c3 : Nat) (a : Acc) (w : World) :
    Calls Try.prog 48 #[.agg #[.slice S a.s.length c1, .slice N a.n.length c2, .slice G a.g.length c3]] w fun e w' => e = .returned (.bool (greatB a)) ∧ Below w.heap.size w w' := by
  by_cases h1 : 600 < a.s.length
  · go_enter Try.func48, Try.ntmps48
    go_wp2
    go_ret
    exact ⟨ret_bool (by simp [greatB, h1]), balloc (Below.refl _ _) _⟩
  by_cases h2 : 600 < a.n.length
  · go_enter Try.func48, Try.ntmps48
    go_wp2
    go_ret
    exact ⟨ret_bool (by simp [greatB, h2]), balloc (Below.refl _ _) _⟩
  · go_enter Try.func48, Try.ntmps48
    go_wp2
    go_ret
    exact ⟨ret_bool (by unfold greatB; rw [Bool.eq_iff_iff]; simp; omega), balloc (Below.refl _ _) _⟩
def validB (c : Int × Int) : Bool := !wrongB (-1000000000) c
theorem valid_dec {b : Bool} {c : Int × Int} (h : b = decide (0 ≤ c.2 ∧ c.2 < 1000000000 ∧ -1000000000 ≤ c.1 ∧ c.1 < 1000000000)) : b = validB c := by
  subst h
  unfold validB
  cases e : wrongB (-1000000000) c
  · simpa using wrongB_no.1 e
  · simp only [Bool.not_true, decide_eq_false_iff_not]
    intro h
    rw [wrongB_no.2 h] at e
    cases e
theorem validB_yes {c : Int × Int} (h : validB c = true) : okC c := by
  have := wrongB_no.1 (show wrongB (-1000000000) c = false by simpa [validB] using h)
  exact ⟨⟨this.2.2.1, this.2.2.2⟩, this.1, this.2.1⟩
theorem valid_any (c : Int × Int) (w : World) :
    Calls Try.prog 83 #[.agg #[.int .i64 c.1, .int .i64 c.2]] w fun e w' => e = .returned (.bool (validB c)) ∧ Below w.heap.size w w' := by
  go_enter Try.func83, Try.ntmps83
  go_wp2
  all_goals
    go_ret
    exact ⟨ret_bool (valid_dec (by rw [Bool.eq_iff_iff]; simp; omega)), balloc (Below.refl _ _) _⟩
theorem worth_any (c : Int × Int) (w : World) (h : okC c) :
    Calls Try.prog 54 #[.agg #[.int .i64 c.1, .int .i64 c.2]] w fun e w' => e = .returned (.int .i64 (val c)) ∧ Below w.heap.size w w' := by
  obtain ⟨⟨h1, h2⟩, h3, h4⟩ := h
  go_enter Try.func54, Try.ntmps54
  go_wp2
  go_ret
  exact ⟨ret_int (by unfold val; omega), balloc (Below.refl _ _) _⟩
theorem meet_any (a b : Int × Int) (w : World) (ha : okG a) (hb : okG b) :
    Calls Try.prog 89 #[.agg #[.int .i64 a.1, .int .i64 a.2], .agg #[.int .i64 b.1, .int .i64 b.2]] w fun e w' => e = .returned (.bool (meetB a b)) ∧ Below w.heap.size w w' := by
  unfold okG at ha hb
  by_cases h1 : a.1 < b.1 + b.2
  · go_enter Try.func89, Try.ntmps89
    go_wp2
    go_ret
    exact ⟨ret_bool (by simp [meetB, h1]), balloc (balloc (Below.refl _ _) _) _⟩
  · go_enter Try.func89, Try.ntmps89
    go_wp2
    go_ret
    exact ⟨ret_bool (by unfold meetB; rw [Bool.eq_iff_iff]; simp; omega), balloc (balloc (Below.refl _ _) _) _⟩
theorem cnt_neg' {v : Int} (h2 : v.tmod 1000000000 < 0) : v.tdiv 1000000000 - 1 = (cnt v).1 := by
  unfold cnt
  rcases tdm v with ⟨h3, h4, h5⟩ | ⟨h3, h4, h5⟩
  · omega
  · simp only []
    omega
theorem cnt_snd (v : Int) : v - (cnt v).1 * 1000000000 = (cnt v).2 := by unfold cnt; simp only []; omega
def CntPost (v : Int) (w : World) (e : Ending) (w' : World) : Prop := e = .returned (.tuple #[.agg #[.int .i64 (cnt v).1, .int .i64 (cnt v).2], .bool (validB (cnt v))]) ∧ Below w.heap.size w w'
set_option maxHeartbeats 400000 in
theorem counted_any (v : Int) (w : World) (h : -2000000000000000000 ≤ v ∧ v ≤ 2000000000000000000) :
    Calls Try.prog 71 #[.int .i64 v] w (CntPost v w) := by
  have hbd : -2000000001 ≤ (cnt v).1 ∧ (cnt v).1 ≤ 2000000000 := by unfold cnt; simp only []; omega
  have hbd2 := cnt_fit v
  have HS := Lib.hid (cnt_snd v)
  by_cases hm : v.tmod 1000000000 < 0
  · have HE := Lib.hid (cnt_neg' hm)
    go_enter Try.func71, Try.ntmps71
    go_wp2
    have e1 : wrap64 (v.tdiv 1000000000 - 1) = (cnt v).1 := by rw [HE.out, IntWalk.wrap64_in _ (by omega)]
    have e2 : wrap64 (v - wrap64 ((cnt v).1 * 1000000000)) = (cnt v).2 := by rw [IntWalk.wrap64_in ((cnt v).1 * 1000000000) (by omega), HS.out, IntWalk.wrap64_in _ (by omega)]
    simp only [e1, e2]
    clear e1 e2
    obtain ⟨wE, hwE⟩ : ∃ wE, wE = (w.alloc (.cells #[.int .i64 0, .int .i64 0] 97)).alloc (.cells #[.int .i64 (cnt v).1, .int .i64 (cnt v).2] 97) := ⟨_, rfl⟩
    have hb : Below w.heap.size w wE := by rw [hwE]; exact balloc (balloc (Below.refl _ _) _) _
    have hZ : Blk wE w.heap.size 97 #[.int .i64 0, .int .i64 0] := by rw [hwE]; exact (Blk.new _ _ _).alloc _
    have hC : Blk wE (w.heap.size + 1) 97 #[.int .i64 (cnt v).1, .int .i64 (cnt v).2] := by rw [hwE]; exact Blk.newAt _ _ (by simp)
    rw [← hwE]
    clear hwE HE HS
    have HP : Hid (CntPost v w = fun e w' => e = .returned (.tuple #[.agg #[.int .i64 (cnt v).1, .int .i64 (cnt v).2], .bool (validB (cnt v))]) ∧ Below w.heap.size w w') := Lib.hid rfl
    generalize cnt v = C at *
    have q0 : World.cell? wE ⟨(w.heap.size + 1), 0, none⟩ = some (.int .i64 C.1) := hC.cell 0
    have f0 := hC.frozen 0
    have q1 : World.cell? wE ⟨(w.heap.size + 1), 1, none⟩ = some (.int .i64 C.2) := hC.cell 1
    have f1 := hC.frozen 1
    have fl := hC.lt
    have HH : Hid (∀ W, Below wE.heap.size wE W → W.cell? ⟨w.heap.size + 1, 0, none⟩ = some (.int .i64 C.1) ∧ W.cell? ⟨w.heap.size + 1, 1, none⟩ = some (.int .i64 C.2)) := Lib.hid (fun W hW => ⟨(hW.cell (p := ⟨w.heap.size + 1, 0, none⟩) hC.lt).trans (hC.cell 0), (hW.cell (p := ⟨w.heap.size + 1, 1, none⟩) hC.lt).trans (hC.cell 1)⟩)
    go_region_held3 (fun w' => w'.cell? ⟨w.heap.size + 1, 0, none⟩ = some (.int .i64 C.1) ∧ w'.cell? ⟨w.heap.size + 1, 1, none⟩ = some (.int .i64 C.2))
      (first | exact HH.out _ (Below.refl _ _) | exact HH.out _ (Below.drew (Below.refl _ _)) | exact HH.out _ hb9 | exact HH5.out)
      ((first
        | (go_at_call 83; (with_reducible refine (valid_any C wE.drew).mono ?_); rintro e w9 ⟨rfl, hb9'⟩; have hb9 : Below wE.heap.size wE w9 := bstep (Below.drew (Below.refl _ _)) hb9'; have hZ9 := hZ.keep hb9; have z0 : w9.cell? ⟨w.heap.size, 0, none⟩ = some (.int .i64 0) := hZ9.cell 0; have z1 : w9.cell? ⟨w.heap.size, 1, none⟩ = some (.int .i64 0) := hZ9.cell 1; have zf0 := hZ9.frozen 0; have zf1 := hZ9.frozen 1; have zl := hZ9.lt; have hC9 := hC.keep hb9; have HH5 := Lib.hid (show ((w9.setCell ⟨w.heap.size, 0, none⟩ (.int .i64 C.1)).setCell ⟨w.heap.size, 1, none⟩ (.int .i64 C.2)).cell? ⟨w.heap.size + 1, 0, none⟩ = some (.int .i64 C.1) ∧ ((w9.setCell ⟨w.heap.size, 0, none⟩ (.int .i64 C.1)).setCell ⟨w.heap.size, 1, none⟩ (.int .i64 C.2)).cell? ⟨w.heap.size + 1, 1, none⟩ = some (.int .i64 C.2) from ⟨((hC9.far (p := ⟨w.heap.size, 0, none⟩) (Nat.succ_ne_self _) _).far (p := ⟨w.heap.size, 1, none⟩) (Nat.succ_ne_self _) _).cell 0, ((hC9.far (p := ⟨w.heap.size, 0, none⟩) (Nat.succ_ne_self _) _).far (p := ⟨w.heap.size, 1, none⟩) (Nat.succ_ne_self _) _).cell 1⟩))))
    all_goals go_wp2
    refine bodyPost_ret (v := .tuple #[.agg #[.int .i64 C.1, .int .i64 C.2], .bool (validB C)]) (by simp [results, Try.results71, go_sem, z0, z1, zf0, zf1, zl]) rfl ?_
    rw [HP.out]
    exact ⟨rfl, by have hB := bstep hb hb9; (repeat (first | with_reducible exact Below.refl _ _ | assumption | with_reducible refine below_drewN ?_ _ | with_reducible refine Below.drew ?_ | with_reducible refine balloc ?_ _ | (with_reducible refine Below.setCell ?_ ?_ _; rotate_left; focus (first | (simp; done) | (simp; omega) | omega))))⟩
  · have HE := Lib.hid (cnt_pos (v := v) (by omega)).1
    go_enter Try.func71, Try.ntmps71
    go_wp2
    have e1 : v.tdiv 1000000000 = (cnt v).1 := HE.out
    have e2 : wrap64 (v - wrap64 ((cnt v).1 * 1000000000)) = (cnt v).2 := by rw [IntWalk.wrap64_in ((cnt v).1 * 1000000000) (by omega), HS.out, IntWalk.wrap64_in _ (by omega)]
    simp only [e1, e2]
    clear e1 e2
    obtain ⟨wE, hwE⟩ : ∃ wE, wE = (w.alloc (.cells #[.int .i64 0, .int .i64 0] 97)).alloc (.cells #[.int .i64 (cnt v).1, .int .i64 (cnt v).2] 97) := ⟨_, rfl⟩
    have hb : Below w.heap.size w wE := by rw [hwE]; exact balloc (balloc (Below.refl _ _) _) _
    have hZ : Blk wE w.heap.size 97 #[.int .i64 0, .int .i64 0] := by rw [hwE]; exact (Blk.new _ _ _).alloc _
    have hC : Blk wE (w.heap.size + 1) 97 #[.int .i64 (cnt v).1, .int .i64 (cnt v).2] := by rw [hwE]; exact Blk.newAt _ _ (by simp)
    rw [← hwE]
    clear hwE HE HS
    have HP : Hid (CntPost v w = fun e w' => e = .returned (.tuple #[.agg #[.int .i64 (cnt v).1, .int .i64 (cnt v).2], .bool (validB (cnt v))]) ∧ Below w.heap.size w w') := Lib.hid rfl
    generalize cnt v = C at *
    have q0 : World.cell? wE ⟨(w.heap.size + 1), 0, none⟩ = some (.int .i64 C.1) := hC.cell 0
    have f0 := hC.frozen 0
    have q1 : World.cell? wE ⟨(w.heap.size + 1), 1, none⟩ = some (.int .i64 C.2) := hC.cell 1
    have f1 := hC.frozen 1
    have fl := hC.lt
    have HH : Hid (∀ W, Below wE.heap.size wE W → W.cell? ⟨w.heap.size + 1, 0, none⟩ = some (.int .i64 C.1) ∧ W.cell? ⟨w.heap.size + 1, 1, none⟩ = some (.int .i64 C.2)) := Lib.hid (fun W hW => ⟨(hW.cell (p := ⟨w.heap.size + 1, 0, none⟩) hC.lt).trans (hC.cell 0), (hW.cell (p := ⟨w.heap.size + 1, 1, none⟩) hC.lt).trans (hC.cell 1)⟩)
    go_region_held3 (fun w' => w'.cell? ⟨w.heap.size + 1, 0, none⟩ = some (.int .i64 C.1) ∧ w'.cell? ⟨w.heap.size + 1, 1, none⟩ = some (.int .i64 C.2))
      (first | exact HH.out _ (Below.refl _ _) | exact HH.out _ (Below.drew (Below.refl _ _)) | exact HH.out _ hb9 | exact HH5.out)
      ((first
        | (go_at_call 83; (with_reducible refine (valid_any C wE.drew).mono ?_); rintro e w9 ⟨rfl, hb9'⟩; have hb9 : Below wE.heap.size wE w9 := bstep (Below.drew (Below.refl _ _)) hb9'; have hZ9 := hZ.keep hb9; have z0 : w9.cell? ⟨w.heap.size, 0, none⟩ = some (.int .i64 0) := hZ9.cell 0; have z1 : w9.cell? ⟨w.heap.size, 1, none⟩ = some (.int .i64 0) := hZ9.cell 1; have zf0 := hZ9.frozen 0; have zf1 := hZ9.frozen 1; have zl := hZ9.lt; have hC9 := hC.keep hb9; have HH5 := Lib.hid (show ((w9.setCell ⟨w.heap.size, 0, none⟩ (.int .i64 C.1)).setCell ⟨w.heap.size, 1, none⟩ (.int .i64 C.2)).cell? ⟨w.heap.size + 1, 0, none⟩ = some (.int .i64 C.1) ∧ ((w9.setCell ⟨w.heap.size, 0, none⟩ (.int .i64 C.1)).setCell ⟨w.heap.size, 1, none⟩ (.int .i64 C.2)).cell? ⟨w.heap.size + 1, 1, none⟩ = some (.int .i64 C.2) from ⟨((hC9.far (p := ⟨w.heap.size, 0, none⟩) (Nat.succ_ne_self _) _).far (p := ⟨w.heap.size, 1, none⟩) (Nat.succ_ne_self _) _).cell 0, ((hC9.far (p := ⟨w.heap.size, 0, none⟩) (Nat.succ_ne_self _) _).far (p := ⟨w.heap.size, 1, none⟩) (Nat.succ_ne_self _) _).cell 1⟩))))
    all_goals go_wp2
    refine bodyPost_ret (v := .tuple #[.agg #[.int .i64 C.1, .int .i64 C.2], .bool (validB C)]) (by simp [results, Try.results71, go_sem, z0, z1, zf0, zf1, zl]) rfl ?_
    rw [HP.out]
    exact ⟨rfl, by have hB := bstep hb hb9; (repeat (first | with_reducible exact Below.refl _ _ | assumption | with_reducible refine below_drewN ?_ _ | with_reducible refine Below.drew ?_ | with_reducible refine balloc ?_ _ | (with_reducible refine Below.setCell ?_ ?_ _; rotate_left; focus (first | (simp; done) | (simp; omega) | omega))))⟩
end Go.Proofs.Ytdekbncpodjgnaa
namespace Go.Proofs.Ytdekbncpodjgnaa
open Go.RowKit Runs Lagc
set_option linter.unusedVariables false
set_option linter.unusedSimpArgs false

theorem gOk_no {l : List (Int × Int)} {k : Nat} (hk : k < l.length) (h : l[k].1 < 0 ∨ 1000000000 < l[k].1 ∨ l[k].2 < 1 ∨ 1000000000 - l[k].1 < l[k].2) : gOk l k = false := by
  unfold gOk
  rw [getD_lt _ _ hk, decide_eq_false_iff_not]
  omega
theorem gOk_no2 {l : List (Int × Int)} {k : Nat} (hk : k < l.length) (h0 : 0 < k) (h : l[k].1 ≤ (l.getD (k - 1) (0, 0)).1 + (l.getD (k - 1) (0, 0)).2) : gOk l k = false := by
  unfold gOk
  rw [getD_lt _ _ hk, decide_eq_false_iff_not]
  omega
theorem gOk_yes {l : List (Int × Int)} {k : Nat} (hk : k < l.length) (h1 : ¬ l[k].1 < 0) (h2 : ¬ l[k].2 < 1) (h3 : ¬ 1000000000 - l[k].1 < l[k].2) (h : k = 0 ∨ (l.getD (k - 1) (0, 0)).1 + (l.getD (k - 1) (0, 0)).2 < l[k].1) : gOk l k = true := by
  unfold gOk
  rw [getD_lt _ _ hk, decide_eq_true_eq]
  exact ⟨by omega, by omega, by omega, h⟩
set_option maxHeartbeats 1000000 in
theorem refRuns_any (A : Option Addr) (c : Nat) (l : List (Int × Int)) (w : World) (hx : RL w A l) (hl : l.length ≤ 140737488355328) (hr : ∀ x ∈ l, -9223372036854775808 ≤ x.1 ∧ x.1 ≤ 9223372036854775807) :
    Calls Try.prog 82 #[.slice A l.length c] w fun e w' => e = .returned (.bool (runB l)) ∧ Below w.heap.size w w' := by
  have HX := Lib.hid hr
  clear hr
  go_enter Try.func82, Try.ntmps82
  go_wp2
  go_loopg [3] l.length (fun gk i wr => ∃ k : Nat, k + gk = l.length ∧ i = .int .i64 k ∧ Below w.heap.size w wr ∧ Hid (∀ j, j < k → gOk l j = true))
  case atStart => exact ⟨0, by omega, rfl, Below.refl _ _, Lib.hid (by intro j hj; omega)⟩
  case round =>
    obtain ⟨k, hk, rfl, hb, hall⟩ := hrel
    have hk' : k ≤ l.length := by omega
    have HK := Lib.hid hk
    clear hk
    by_cases hlt : k < l.length
    · obtain ⟨b, off, rfl, _, hc1, hc2⟩ := (hx.keep hb).at_ hlt
      rw [getD_lt _ _ hlt] at hc1 hc2
      have hxr := HX.out _ (List.getElem_mem hlt)
      by_cases q1 : l[k].1 < 0
      · go_wp2
        go_quiet (fail)
        go_wp2
        go_ret
        exact ⟨ret_bool (runB_no hlt (gOk_no hlt (by omega))).symm, by (repeat (first | with_reducible exact Below.refl _ _ | assumption | with_reducible refine below_drewN ?_ _ | with_reducible refine Below.drew ?_ | with_reducible refine balloc ?_ _ | (with_reducible refine Below.setCell ?_ ?_ _; rotate_left; focus (first | (simp; done) | (simp; omega) | omega))))⟩
      have d1 : decide (l[k].1 < 0) = false := by simpa using q1
      by_cases q2 : 1000000000 < l[k].1
      · go_wp2
        go_quiet (fail)
        go_wp2
        go_ret
        exact ⟨ret_bool (runB_no hlt (gOk_no hlt (by omega))).symm, by (repeat (first | with_reducible exact Below.refl _ _ | assumption | with_reducible refine below_drewN ?_ _ | with_reducible refine Below.drew ?_ | with_reducible refine balloc ?_ _ | (with_reducible refine Below.setCell ?_ ?_ _; rotate_left; focus (first | (simp; done) | (simp; omega) | omega))))⟩
      have d2 : decide (1000000000 < l[k].1) = false := by simpa using q2
      by_cases q3 : l[k].2 < 1
      · go_wp2
        go_quiet (fail)
        go_wp2
        go_ret
        exact ⟨ret_bool (runB_no hlt (gOk_no hlt (by omega))).symm, by (repeat (first | with_reducible exact Below.refl _ _ | assumption | with_reducible refine below_drewN ?_ _ | with_reducible refine Below.drew ?_ | with_reducible refine balloc ?_ _ | (with_reducible refine Below.setCell ?_ ?_ _; rotate_left; focus (first | (simp; done) | (simp; omega) | omega))))⟩
      have d3 : decide (l[k].2 < 1) = false := by simpa using q3
      have hw : IntKind.i64.wrap (1000000000 - l[k].1) = 1000000000 - l[k].1 := IntWalk.i64_in _ (by omega)
      by_cases q4 : 1000000000 - l[k].1 < l[k].2
      · go_wp2
        go_quiet (fail)
        go_wp2
        go_ret
        exact ⟨ret_bool (runB_no hlt (gOk_no hlt (by omega))).symm, by (repeat (first | with_reducible exact Below.refl _ _ | assumption | with_reducible refine below_drewN ?_ _ | with_reducible refine Below.drew ?_ | with_reducible refine balloc ?_ _ | (with_reducible refine Below.setCell ?_ ?_ _; rotate_left; focus (first | (simp; done) | (simp; omega) | omega))))⟩
      have d4 : decide (1000000000 - l[k].1 < l[k].2) = false := by simpa using q4
      by_cases hk0 : 0 < k
      · have hlt1 : k - 1 < l.length := by omega
        obtain ⟨b', off', e, _, hc3, hc4⟩ := (hx.keep hb).at_ hlt1
        obtain ⟨rfl, rfl⟩ : b = b' ∧ off = off' := by injection e with e; injection e with e1 e2; exact ⟨e1, e2⟩
        clear e
        have hp := hall.out (k - 1) (by omega)
        unfold gOk at hp
        rw [decide_eq_true_eq] at hp
        obtain ⟨hp1, hp2, hp3, _⟩ := hp
        have HN := fun h => gOk_no2 hlt hk0 h
        have HY := fun h => gOk_yes hlt q1 q3 q4 (.inr h)
        have HN' := Lib.hid HN
        have HY' := Lib.hid HY
        clear HN HY
        generalize l.getD (k - 1) (0, 0) = y at *
        have hw2 : IntKind.i64.wrap ((k : Int) - 1) = ((k - 1 : Nat) : Int) := by rw [IntWalk.i64_in _ (by omega)]; omega
        have hw3 : IntKind.i64.wrap (y.1 + y.2) = y.1 + y.2 := IntWalk.i64_in _ (by omega)
        have hk1 : (0 : Int) < (k : Int) := by omega
        by_cases q5 : l[k].1 ≤ y.1 + y.2
        · go_wp2
          go_quiet (fail)
          go_wp2
          go_quiet (fail)
          go_wp2
          go_ret
          exact ⟨ret_bool (runB_no hlt (HN'.out q5)).symm, by (repeat (first | with_reducible exact Below.refl _ _ | assumption | with_reducible refine below_drewN ?_ _ | with_reducible refine Below.drew ?_ | with_reducible refine balloc ?_ _ | (with_reducible refine Below.setCell ?_ ?_ _; rotate_left; focus (first | (simp; done) | (simp; omega) | omega))))⟩
        · have d5 : decide (l[k].1 ≤ y.1 + y.2) = false := by simpa using q5
          go_wp2
          go_quiet (fail)
          go_wp2
          go_quiet (fail)
          go_wp2
          go_roundg (gk - 1)
          case rel => exact ⟨k + 1, by have := HK.out; omega, by go_num, by (repeat (first | with_reducible exact Below.refl _ _ | assumption | with_reducible refine below_drewN ?_ _ | with_reducible refine Below.drew ?_ | with_reducible refine balloc ?_ _ | (with_reducible refine Below.setCell ?_ ?_ _; rotate_left; focus (first | (simp; done) | (simp; omega) | omega)))), Lib.hid (all_lt_succ hall.out (HY'.out (by omega)))⟩
          case measure => have := HK.out; omega
      · have HY := Lib.hid (gOk_yes hlt q1 q3 q4 (.inl (by omega)))
        have d6 : decide (0 < k) = false := by simpa using hk0
        have d7 : decide (0 < (k : Int)) = false := by simp; omega
        go_wp2
        go_quiet (fail)
        go_wp2
        go_quiet (fail)
        go_wp2
        go_roundg (gk - 1)
        case rel => exact ⟨k + 1, by have := HK.out; omega, by go_num, by (repeat (first | with_reducible exact Below.refl _ _ | assumption | with_reducible refine below_drewN ?_ _ | with_reducible refine Below.drew ?_ | with_reducible refine balloc ?_ _ | (with_reducible refine Below.setCell ?_ ?_ _; rotate_left; focus (first | (simp; done) | (simp; omega) | omega)))), Lib.hid (all_lt_succ hall.out HY.out)⟩
        case measure => have := HK.out; omega
    · go_wp2
      go_ret
      exact ⟨ret_bool (runB_all.2 (fun j hj => hall.out j (by omega))).symm, hb⟩
def inB (l : List (Int × Int)) (t : Int) : Bool := l.any (fun g => decide (g.1 ≤ t ∧ t < g.1 + g.2))
theorem inB_mem {l : List (Int × Int)} {t : Int} (h : mem l t) : inB l t = true := by
  obtain ⟨g, hg, hi⟩ := h
  unfold inB
  rw [List.any_eq_true]
  exact ⟨g, hg, by simpa [inG] using hi⟩
end Go.Proofs.Ytdekbncpodjgnaa
namespace Go.Proofs.Ytdekbncpodjgnaa
open Go.RowKit Runs Lagc
set_option linter.unusedVariables false
set_option linter.unusedSimpArgs false

theorem bad_s {a : Acc} (h : ¬ (511 < a.s.length ∨ 511 < a.n.length ∨ 64 < a.g.length)) {k : Nat} (hk : k < a.s.length) (hv : validB a.s[k] = false) : accErr a = 8 := by
  refine err_val h ?_
  rw [any_yes hk (show wrongB (-1000000000) a.s[k] = true by simpa [validB] using hv)]
  rfl
theorem wrong_n {c : Int × Int} (h : validB c = false ∨ val c < 0) : wrongB 0 c = true := by
  cases e : wrongB 0 c
  · exfalso
    have h2 := wrongB_no.1 e
    rcases h with h | h
    · have h3 : wrongB (-1000000000) c = true := by simpa [validB] using h
      rw [wrongB_no.2 ⟨h2.1, h2.2.1, by omega, h2.2.2.2⟩] at h3
      cases h3
    · unfold val at h
      omega
  · rfl
theorem bad_n {a : Acc} (h : ¬ (511 < a.s.length ∨ 511 < a.n.length ∨ 64 < a.g.length)) {k : Nat} (hk : k < a.n.length) (hv : validB a.n[k] = false ∨ val a.n[k] < 0) : accErr a = 8 := by
  refine err_val h ?_
  rw [any_yes hk (wrong_n hv)]
  simp
theorem right_n {c : Int × Int} (h : validB c = true) (h2 : ¬ val c < 0) : wrongB 0 c = false := by
  obtain ⟨h3, h4⟩ := validB_yes h
  rw [wrongB_no]
  unfold val at h2
  omega
set_option maxRecDepth 20000 in
set_option maxHeartbeats 2000000 in
theorem refCheck_any (S N G : Option Addr) (c1 c2 c3 : Nat) (a : Acc) (w : World) (hx : RA w S N G a) (l1 : a.s.length ≤ 140737488355328) (l2 : a.n.length ≤ 140737488355328) (l3 : a.g.length ≤ 140737488355328) (hg : ∀ x ∈ a.g, -9223372036854775808 ≤ x.1 ∧ x.1 ≤ 9223372036854775807) :
    Calls Try.prog 69 #[.agg #[.slice S a.s.length c1, .slice N a.n.length c2, .slice G a.g.length c3]] w fun e w' => e = .returned (.int .i64 (accErr a)) ∧ Below w.heap.size w w' := by
  have hb0 : Below w.heap.size w (w.alloc (.cells #[.slice S a.s.length c1, .slice N a.n.length c2, .slice G a.g.length c3] 39)) := balloc (Below.refl _ _) _
  have HR := fun w hx => refRuns_any G c3 a.g w hx l3 hg
  by_cases hm : 511 < a.s.length ∨ 511 < a.n.length ∨ 64 < a.g.length
  · have HM := Lib.hid (err_many hm)
    have d1 : 511 < a.s.length ∨ (¬ 511 < a.s.length ∧ 511 < a.n.length) ∨ (¬ 511 < a.s.length ∧ ¬ 511 < a.n.length ∧ 64 < a.g.length) := by omega
    clear hm
    rcases d1 with h1 | ⟨h1, h2⟩ | ⟨h1, h2, h3⟩
    all_goals
      go_enter Try.func69, Try.ntmps69
      go_wp2
      go_ret
      exact ⟨ret_int HM.out.symm, hb0⟩
  have HM := Lib.hid hm
  have m1 : a.s.length ≤ 511 := by omega
  have m2 : a.n.length ≤ 511 := by omega
  have m3 : a.g.length ≤ 64 := by omega
  clear hm
  by_cases hlen : a.s.length = a.n.length
  · have e1 : ((a.s.length : Int) != a.n.length) = false := by simp; omega
    have hle : a.s.length ≤ a.n.length := by omega
    have HL := Lib.hid hlen
    clear hlen
    by_cases hp : a.s.length % 2 = 0
    · have e2 : ((a.s.length : Int) % 2 != 1) = true := by simp; omega
      have HF := Lib.hid (err_form HM.out (.inr (.inl hp)))
      clear hp
      go_enter Try.func69, Try.ntmps69
      go_wp2
      go_ret
      exact ⟨ret_int HF.out.symm, hb0⟩
    have e2 : ((a.s.length : Int) % 2 != 1) = false := by simp; omega
    have HP := Lib.hid hp
    clear hp
    by_cases hr : runB a.g = true
    · rw [hr] at HR
      have HRN := Lib.hid hr
      clear hr
      have hk := Blk.new w 39 #[.slice S a.s.length c1, .slice N a.n.length c2, .slice G a.g.length c3]
      go_enter Try.func69, Try.ntmps69
      go_wp2_with fail
      refine (HR _ (hx.g.keep hb0)).mono ?_
      rintro _ w1 ⟨rfl, hb1⟩
      have hB1 := bstep hb0 hb1
      have hkW := hk.keep hb1
      have q0 : World.cell? w1 ⟨w.heap.size, 0, none⟩ = some (.slice S a.s.length c1) := hkW.cell 0
      have f0 := hkW.frozen 0
      have q1 : World.cell? w1 ⟨w.heap.size, 1, none⟩ = some (.slice N a.n.length c2) := hkW.cell 1
      have f1 := hkW.frozen 1
      have q2 : World.cell? w1 ⟨w.heap.size, 2, none⟩ = some (.slice G a.g.length c3) := hkW.cell 2
      have f2 := hkW.frozen 2
      have fl := hkW.lt
      go_wp2
      clear q0 q1 q2 f0 f1 f2 fl hkW
      replace hk := hk.keep hb1
      go_loopg [3] a.s.length (fun gk i wr => ∃ k : Nat, k + gk = a.s.length ∧ i = .int .i64 k ∧ Below w1.heap.size w1 wr ∧ Hid (∀ x ∈ a.s.take k, wrongB (-1000000000) x = false) ∧ Hid (∀ x ∈ a.n.take k, wrongB 0 x = false))
      case atStart => exact ⟨0, by omega, rfl, Below.refl _ _, Lib.hid (by simp), Lib.hid (by simp)⟩
      case round =>
        obtain ⟨k, hkk, rfl, hb, hs, hn⟩ := hrel
        have hk' : k ≤ a.s.length := by omega
        have HK := Lib.hid hkk
        clear hkk
        have hbw := bstep hB1 hb
        have hkW := hk.keep hb
        have q0 : World.cell? wr ⟨w.heap.size, 0, none⟩ = some (.slice S a.s.length c1) := hkW.cell 0
        have f0 := hkW.frozen 0
        have q1 : World.cell? wr ⟨w.heap.size, 1, none⟩ = some (.slice N a.n.length c2) := hkW.cell 1
        have f1 := hkW.frozen 1
        have q2 : World.cell? wr ⟨w.heap.size, 2, none⟩ = some (.slice G a.g.length c3) := hkW.cell 2
        have f2 := hkW.frozen 2
        have fl := hkW.lt
        by_cases hlt : k < a.s.length
        · have hlt2 := Nat.lt_of_lt_of_le hlt hle
          obtain ⟨b1, off1, e1', hl1, hc1, hd1⟩ := hx.s.at_ hlt
          obtain ⟨b2, off2, e2', hl2, hc2, hd2⟩ := hx.n.at_ hlt2
          subst e1'; subst e2'
          rw [getD_lt _ _ hlt] at hc1 hd1
          rw [getD_lt _ _ hlt2] at hc2 hd2
          have p1 := (hbw.cell (p := ⟨b1, _, none⟩) hl1).trans hc1
          have p2 := (hbw.cell (p := ⟨b1, _, none⟩) hl1).trans hd1
          have HV := fun w => valid_any a.s[k] w
          have HW := fun w => valid_any a.n[k] w
          by_cases v1 : validB a.s[k] = true
          · rw [v1] at HV
            have HS' := Lib.hid (takeAll_snoc (p := fun x => wrongB (-1000000000) x = false) hlt hs.out (by simpa [validB] using v1))
            clear v1
            by_cases v2 : validB a.n[k] = true
            · rw [v2] at HW
              have HZ := fun w => worth_any a.n[k] w (validB_yes v2)
              by_cases v3 : val a.n[k] < 0
              · have HE := Lib.hid (bad_n HM.out hlt2 (.inr v3))
                clear v2
                go_wp2_with fail
                refine (HV _).mono ?_
                rintro _ w2 ⟨rfl, hb2⟩
                have hb2w := bstep hb hb2
                have hB2 := bstep hbw hb2
                clear q0 q1 q2 f0 f1 f2 fl hkW
                have hkW := hk.keep hb2w
                have q0 : World.cell? w2 ⟨w.heap.size, 0, none⟩ = some (.slice (some ⟨b1, off1, none⟩) a.s.length c1) := hkW.cell 0
                have f0 := hkW.frozen 0
                have q1 : World.cell? w2 ⟨w.heap.size, 1, none⟩ = some (.slice (some ⟨b2, off2, none⟩) a.n.length c2) := hkW.cell 1
                have f1 := hkW.frozen 1
                have q2 : World.cell? w2 ⟨w.heap.size, 2, none⟩ = some (.slice G a.g.length c3) := hkW.cell 2
                have f2 := hkW.frozen 2
                have fl := hkW.lt
                have p3 := (hB2.cell (p := ⟨b2, _, none⟩) hl2).trans hc2
                have p4 := (hB2.cell (p := ⟨b2, _, none⟩) hl2).trans hd2
                go_wp2_with fail
                refine (HW _).mono ?_
                rintro _ w3 ⟨rfl, hb3⟩
                have hb3w := bstep hb2w hb3
                have hB3 := bstep hB2 hb3
                clear q0 q1 q2 f0 f1 f2 fl hkW
                have hkW := hk.keep hb3w
                have q0 : World.cell? w3 ⟨w.heap.size, 0, none⟩ = some (.slice (some ⟨b1, off1, none⟩) a.s.length c1) := hkW.cell 0
                have f0 := hkW.frozen 0
                have q1 : World.cell? w3 ⟨w.heap.size, 1, none⟩ = some (.slice (some ⟨b2, off2, none⟩) a.n.length c2) := hkW.cell 1
                have f1 := hkW.frozen 1
                have q2 : World.cell? w3 ⟨w.heap.size, 2, none⟩ = some (.slice G a.g.length c3) := hkW.cell 2
                have f2 := hkW.frozen 2
                have fl := hkW.lt
                have p5 := (hB3.cell (p := ⟨b2, _, none⟩) hl2).trans hc2
                have p6 := (hB3.cell (p := ⟨b2, _, none⟩) hl2).trans hd2
                go_wp2_with fail
                refine (HZ _).mono ?_
                rintro _ w4 ⟨rfl, hb4⟩
                go_wp2
                go_ret
                exact ⟨ret_int HE.out.symm, bstep hB3 hb4⟩
              · have HN' := Lib.hid (takeAll_snoc (p := fun x => wrongB 0 x = false) hlt2 hn.out (right_n v2 v3))
                clear v2
                go_wp2_with fail
                refine (HV _).mono ?_
                rintro _ w2 ⟨rfl, hb2⟩
                have hb2w := bstep hb hb2
                have hB2 := bstep hbw hb2
                clear q0 q1 q2 f0 f1 f2 fl hkW
                have hkW := hk.keep hb2w
                have q0 : World.cell? w2 ⟨w.heap.size, 0, none⟩ = some (.slice (some ⟨b1, off1, none⟩) a.s.length c1) := hkW.cell 0
                have f0 := hkW.frozen 0
                have q1 : World.cell? w2 ⟨w.heap.size, 1, none⟩ = some (.slice (some ⟨b2, off2, none⟩) a.n.length c2) := hkW.cell 1
                have f1 := hkW.frozen 1
                have q2 : World.cell? w2 ⟨w.heap.size, 2, none⟩ = some (.slice G a.g.length c3) := hkW.cell 2
                have f2 := hkW.frozen 2
                have fl := hkW.lt
                have p3 := (hB2.cell (p := ⟨b2, _, none⟩) hl2).trans hc2
                have p4 := (hB2.cell (p := ⟨b2, _, none⟩) hl2).trans hd2
                go_wp2_with fail
                refine (HW _).mono ?_
                rintro _ w3 ⟨rfl, hb3⟩
                have hb3w := bstep hb2w hb3
                have hB3 := bstep hB2 hb3
                clear q0 q1 q2 f0 f1 f2 fl hkW
                have hkW := hk.keep hb3w
                have q0 : World.cell? w3 ⟨w.heap.size, 0, none⟩ = some (.slice (some ⟨b1, off1, none⟩) a.s.length c1) := hkW.cell 0
                have f0 := hkW.frozen 0
                have q1 : World.cell? w3 ⟨w.heap.size, 1, none⟩ = some (.slice (some ⟨b2, off2, none⟩) a.n.length c2) := hkW.cell 1
                have f1 := hkW.frozen 1
                have q2 : World.cell? w3 ⟨w.heap.size, 2, none⟩ = some (.slice G a.g.length c3) := hkW.cell 2
                have f2 := hkW.frozen 2
                have fl := hkW.lt
                have p5 := (hB3.cell (p := ⟨b2, _, none⟩) hl2).trans hc2
                have p6 := (hB3.cell (p := ⟨b2, _, none⟩) hl2).trans hd2
                go_wp2_with fail
                refine (HZ _).mono ?_
                rintro _ w4 ⟨rfl, hb4⟩
                go_wp2
                go_roundg (gk - 1)
                case rel => exact ⟨k + 1, by have := HK.out; omega, by go_num, bstep hb3w hb4, HS', HN'⟩
                case measure => have := HK.out; omega
            · have v2' : validB a.n[k] = false := by simpa using v2
              rw [v2'] at HW
              have HE := Lib.hid (bad_n HM.out hlt2 (.inl v2'))
              clear v2 v2'
              go_wp2_with fail
              refine (HV _).mono ?_
              rintro _ w2 ⟨rfl, hb2⟩
              have hb2w := bstep hb hb2
              have hB2 := bstep hbw hb2
              clear q0 q1 q2 f0 f1 f2 fl hkW
              have hkW := hk.keep hb2w
              have q0 : World.cell? w2 ⟨w.heap.size, 0, none⟩ = some (.slice (some ⟨b1, off1, none⟩) a.s.length c1) := hkW.cell 0
              have f0 := hkW.frozen 0
              have q1 : World.cell? w2 ⟨w.heap.size, 1, none⟩ = some (.slice (some ⟨b2, off2, none⟩) a.n.length c2) := hkW.cell 1
              have f1 := hkW.frozen 1
              have q2 : World.cell? w2 ⟨w.heap.size, 2, none⟩ = some (.slice G a.g.length c3) := hkW.cell 2
              have f2 := hkW.frozen 2
              have fl := hkW.lt
              have p3 := (hB2.cell (p := ⟨b2, _, none⟩) hl2).trans hc2
              have p4 := (hB2.cell (p := ⟨b2, _, none⟩) hl2).trans hd2
              go_wp2_with fail
              refine (HW _).mono ?_
              rintro _ w3 ⟨rfl, hb3⟩
              go_wp2
              go_ret
              exact ⟨ret_int HE.out.symm, bstep hB2 hb3⟩
          · have v1' : validB a.s[k] = false := by simpa using v1
            rw [v1'] at HV
            have HE := Lib.hid (bad_s HM.out hlt v1')
            clear v1 v1'
            go_wp2_with fail
            refine (HV _).mono ?_
            rintro _ w2 ⟨rfl, hb2⟩
            go_wp2
            go_ret
            exact ⟨ret_int HE.out.symm, bstep hbw hb2⟩
        · go_wp2
          go_ret
          exact ⟨ret_int (err_ok HM.out HL.out HP.out HRN.out (any_no (takeAll_end (by omega) hs.out)) (any_no (takeAll_end (by have := HL.out; omega) hn.out))).symm, hbw⟩
    · have hr' : runB a.g = false := by simpa using hr
      rw [hr'] at HR
      have HF := Lib.hid (err_form HM.out (.inr (.inr hr')))
      clear hr hr'
      go_enter Try.func69, Try.ntmps69
      go_wp2_with fail
      refine (HR _ (hx.g.keep hb0)).mono ?_
      rintro _ w1 ⟨rfl, hb1⟩
      go_wp2
      go_ret
      exact ⟨ret_int HF.out.symm, bstep hb0 hb1⟩
  · have e1 : ((a.s.length : Int) != a.n.length) = true := by simp; omega
    have HF := Lib.hid (err_form HM.out (.inl hlen))
    clear hlen
    go_enter Try.func69, Try.ntmps69
    go_wp2
    go_ret
    exact ⟨ret_int HF.out.symm, hb0⟩
end Go.Proofs.Ytdekbncpodjgnaa
