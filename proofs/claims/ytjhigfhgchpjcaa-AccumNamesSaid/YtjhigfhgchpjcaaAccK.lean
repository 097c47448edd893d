/-
  Contracts of the reference: Great, Valid, Worth, meet, counted, Runs, In, Check.
-/
import Derived.Test.YtjhigfhgchpjcaaAccJ
namespace Go.Proofs.Ytjhigfhgchpjcaa
open Go.RowKit Runs Lagc
set_option linter.unusedVariables false
set_option linter.unusedSimpArgs false

def greatB (a : Acc) : Bool := decide (600 < a.s.length ∨ 600 < a.n.length ∨ 100 < a.g.length)
theorem great_any (S N G : Option Addr) (c1 c2 c3 : Nat) (a : Acc) (w : World) :
    Calls Try.prog 9 #[.agg #[.slice S a.s.length c1, .slice N a.n.length c2, .slice G a.g.length c3]] w fun e w' => e = .returned (.bool (greatB a)) ∧ Below w.heap.size w w' := by
  by_cases h1 : 600 < a.s.length
  · go_enter Try.func9, Try.ntmps9
    go_wp2
    go_ret
    exact ⟨ret_bool (by simp [greatB, h1]), balloc (Below.refl _ _) _⟩
  by_cases h2 : 600 < a.n.length
  · go_enter Try.func9, Try.ntmps9
    go_wp2
    go_ret
    exact ⟨ret_bool (by simp [greatB, h2]), balloc (Below.refl _ _) _⟩
  · go_enter Try.func9, Try.ntmps9
    go_wp2
    go_ret
    exact ⟨ret_bool (by unfold greatB; rw [Bool.eq_iff_iff]; simp; omega), balloc (Below.refl _ _) _⟩
def validB (c : Int × Int) : Bool := !wrongB (-1000000000) c
theorem valid_dec {b : Bool} {c : Int × Int} (h : b = decide (0 ≤ c.2 ∧ c.2 < 1000000000 ∧ -1000000000 ≤ c.1 ∧ c.1 < 1000000000)) : b = validB c := by
  subst h
  unfold validB
  cases e : wrongB (-1000000000) c
  · simpa using wrongB_no.1 e
  · simp only [Bool.not_true, decide_eq_false_iff_not]
    intro h
    rw [wrongB_no.2 h] at e
    cases e
theorem validB_yes {c : Int × Int} (h : validB c = true) : okC c := by
  have := wrongB_no.1 (show wrongB (-1000000000) c = false by simpa [validB] using h)
  exact ⟨⟨this.2.2.1, this.2.2.2⟩, this.1, this.2.1⟩
theorem valid_any (c : Int × Int) (w : World) :
    Calls Try.prog 41 #[.agg #[.int .i64 c.1, .int .i64 c.2]] w fun e w' => e = .returned (.bool (validB c)) ∧ Below w.heap.size w w' := by
  go_enter Try.func41, Try.ntmps41
  go_wp2
  all_goals
    go_ret
    exact ⟨ret_bool (valid_dec (by rw [Bool.eq_iff_iff]; simp; omega)), balloc (Below.refl _ _) _⟩
theorem worth_any (c : Int × Int) (w : World) (h : okC c) :
    Calls Try.prog 42 #[.agg #[.int .i64 c.1, .int .i64 c.2]] w fun e w' => e = .returned (.int .i64 (val c)) ∧ Below w.heap.size w w' := by
  obtain ⟨⟨h1, h2⟩, h3, h4⟩ := h
  go_enter Try.func42, Try.ntmps42
  go_wp2
  go_ret
  exact ⟨ret_int (by unfold val; omega), balloc (Below.refl _ _) _⟩
theorem meet_any (a b : Int × Int) (w : World) (ha : okG a) (hb : okG b) :
    Calls Try.prog 54 #[.agg #[.int .i64 a.1, .int .i64 a.2], .agg #[.int .i64 b.1, .int .i64 b.2]] w fun e w' => e = .returned (.bool (meetB a b)) ∧ Below w.heap.size w w' := by
  unfold okG at ha hb
  by_cases h1 : a.1 < b.1 + b.2
  · go_enter Try.func54, Try.ntmps54
    go_wp2
    go_ret
    exact ⟨ret_bool (by simp [meetB, h1]), balloc (balloc (Below.refl _ _) _) _⟩
  · go_enter Try.func54, Try.ntmps54
    go_wp2
    go_ret
    exact ⟨ret_bool (by unfold meetB; rw [Bool.eq_iff_iff]; simp; omega), balloc (balloc (Below.refl _ _) _) _⟩
theorem cnt_neg' {v : Int} (h2 : v.tmod 1000000000 < 0) : v.tdiv 1000000000 - 1 = (cnt v).1 := by
  unfold cnt
  rcases tdm v with ⟨h3, h4, h5⟩ | ⟨h3, h4, h5⟩
  · omega
  · simp only []
    omega
theorem cnt_snd (v : Int) : v - (cnt v).1 * 1000000000 = (cnt v).2 := by unfold cnt; simp only []; omega
def CntPost (v : Int) (w : World) (e : Ending) (w' : World) : Prop := e = .returned (.tuple #[.agg #[.int .i64 (cnt v).1, .int .i64 (cnt v).2], .bool (validB (cnt v))]) ∧ Below w.heap.size w w'
set_option maxHeartbeats 400000 in
theorem counted_any (v : Int) (w : World) (h : -2000000000000000000 ≤ v ∧ v ≤ 2000000000000000000) :
    Calls Try.prog 36 #[.int .i64 v] w (CntPost v w) := by
  have hbd : -2000000001 ≤ (cnt v).1 ∧ (cnt v).1 ≤ 2000000000 := by unfold cnt; simp only []; omega
  have hbd2 := cnt_fit v
  have HS := Lib.hid (cnt_snd v)
  by_cases hm : v.tmod 1000000000 < 0
  · have HE := Lib.hid (cnt_neg' hm)
    go_enter Try.func36, Try.ntmps36
    go_wp2
    have e1 : wrap64 (v.tdiv 1000000000 - 1) = (cnt v).1 := by rw [HE.out, IntWalk.wrap64_in _ (by omega)]
    have e2 : wrap64 (v - wrap64 ((cnt v).1 * 1000000000)) = (cnt v).2 := by rw [IntWalk.wrap64_in ((cnt v).1 * 1000000000) (by omega), HS.out, IntWalk.wrap64_in _ (by omega)]
    simp only [e1, e2]
    clear e1 e2
    obtain ⟨wE, hwE⟩ : ∃ wE, wE = (w.alloc (.cells #[.int .i64 0, .int .i64 0] 60)).alloc (.cells #[.int .i64 (cnt v).1, .int .i64 (cnt v).2] 60) := ⟨_, rfl⟩
    have hb : Below w.heap.size w wE := by rw [hwE]; exact balloc (balloc (Below.refl _ _) _) _
    have hZ : Blk wE w.heap.size 60 #[.int .i64 0, .int .i64 0] := by rw [hwE]; exact (Blk.new _ _ _).alloc _
    have hC : Blk wE (w.heap.size + 1) 60 #[.int .i64 (cnt v).1, .int .i64 (cnt v).2] := by rw [hwE]; exact Blk.newAt _ _ (by simp)
    rw [← hwE]
    clear hwE HE HS
    have HP : Hid (CntPost v w = fun e w' => e = .returned (.tuple #[.agg #[.int .i64 (cnt v).1, .int .i64 (cnt v).2], .bool (validB (cnt v))]) ∧ Below w.heap.size w w') := Lib.hid rfl
    generalize cnt v = C at *
    have q0 : World.cell? wE ⟨(w.heap.size + 1), 0, none⟩ = some (.int .i64 C.1) := hC.cell 0
    have f0 := hC.frozen 0
    have q1 : World.cell? wE ⟨(w.heap.size + 1), 1, none⟩ = some (.int .i64 C.2) := hC.cell 1
    have f1 := hC.frozen 1
    have fl := hC.lt
    have HH : Hid (∀ W, Below wE.heap.size wE W → W.cell? ⟨w.heap.size + 1, 0, none⟩ = some (.int .i64 C.1) ∧ W.cell? ⟨w.heap.size + 1, 1, none⟩ = some (.int .i64 C.2)) := Lib.hid (fun W hW => ⟨(hW.cell (p := ⟨w.heap.size + 1, 0, none⟩) hC.lt).trans (hC.cell 0), (hW.cell (p := ⟨w.heap.size + 1, 1, none⟩) hC.lt).trans (hC.cell 1)⟩)
    go_region_held3 (fun w' => w'.cell? ⟨w.heap.size + 1, 0, none⟩ = some (.int .i64 C.1) ∧ w'.cell? ⟨w.heap.size + 1, 1, none⟩ = some (.int .i64 C.2))
      (first | exact HH.out _ (Below.refl _ _) | exact HH.out _ (Below.drew (Below.refl _ _)) | exact HH.out _ hb9 | exact HH5.out)
      ((first
        | (go_at_call 41; (with_reducible refine (valid_any C wE.drew).mono ?_); rintro e w9 ⟨rfl, hb9'⟩; have hb9 : Below wE.heap.size wE w9 := bstep (Below.drew (Below.refl _ _)) hb9'; have hZ9 := hZ.keep hb9; have z0 : w9.cell? ⟨w.heap.size, 0, none⟩ = some (.int .i64 0) := hZ9.cell 0; have z1 : w9.cell? ⟨w.heap.size, 1, none⟩ = some (.int .i64 0) := hZ9.cell 1; have zf0 := hZ9.frozen 0; have zf1 := hZ9.frozen 1; have zl := hZ9.lt; have hC9 := hC.keep hb9; have HH5 := Lib.hid (show ((w9.setCell ⟨w.heap.size, 0, none⟩ (.int .i64 C.1)).setCell ⟨w.heap.size, 1, none⟩ (.int .i64 C.2)).cell? ⟨w.heap.size + 1, 0, none⟩ = some (.int .i64 C.1) ∧ ((w9.setCell ⟨w.heap.size, 0, none⟩ (.int .i64 C.1)).setCell ⟨w.heap.size, 1, none⟩ (.int .i64 C.2)).cell? ⟨w.heap.size + 1, 1, none⟩ = some (.int .i64 C.2) from ⟨((hC9.far (p := ⟨w.heap.size, 0, none⟩) (Nat.succ_ne_self _) _).far (p := ⟨w.heap.size, 1, none⟩) (Nat.succ_ne_self _) _).cell 0, ((hC9.far (p := ⟨w.heap.size, 0, none⟩) (Nat.succ_ne_self _) _).far (p := ⟨w.heap.size, 1, none⟩) (Nat.succ_ne_self _) _).cell 1⟩))))
    all_goals go_wp2
    refine bodyPost_ret (v := .tuple #[.agg #[.int .i64 C.1, .int .i64 C.2], .bool (validB C)]) (by simp [results, Try.results36, go_sem, z0, z1, zf0, zf1, zl]) rfl ?_
    rw [HP.out]
    exact ⟨rfl, by have hB := bstep hb hb9; (repeat (first | with_reducible exact Below.refl _ _ | assumption | with_reducible refine below_drewN ?_ _ | with_reducible refine Below.drew ?_ | with_reducible refine balloc ?_ _ | (with_reducible refine Below.setCell ?_ ?_ _; rotate_left; focus (first | (simp; done) | (simp; omega) | omega))))⟩
  · have HE := Lib.hid (cnt_pos (v := v) (by omega)).1
    go_enter Try.func36, Try.ntmps36
    go_wp2
    have e1 : v.tdiv 1000000000 = (cnt v).1 := HE.out
    have e2 : wrap64 (v - wrap64 ((cnt v).1 * 1000000000)) = (cnt v).2 := by rw [IntWalk.wrap64_in ((cnt v).1 * 1000000000) (by omega), HS.out, IntWalk.wrap64_in _ (by omega)]
    simp only [e1, e2]
    clear e1 e2
    obtain ⟨wE, hwE⟩ : ∃ wE, wE = (w.alloc (.cells #[.int .i64 0, .int .i64 0] 60)).alloc (.cells #[.int .i64 (cnt v).1, .int .i64 (cnt v).2] 60) := ⟨_, rfl⟩
    have hb : Below w.heap.size w wE := by rw [hwE]; exact balloc (balloc (Below.refl _ _) _) _
    have hZ : Blk wE w.heap.size 60 #[.int .i64 0, .int .i64 0] := by rw [hwE]; exact (Blk.new _ _ _).alloc _
    have hC : Blk wE (w.heap.size + 1) 60 #[.int .i64 (cnt v).1, .int .i64 (cnt v).2] := by rw [hwE]; exact Blk.newAt _ _ (by simp)
    rw [← hwE]
    clear hwE HE HS
    have HP : Hid (CntPost v w = fun e w' => e = .returned (.tuple #[.agg #[.int .i64 (cnt v).1, .int .i64 (cnt v).2], .bool (validB (cnt v))]) ∧ Below w.heap.size w w') := Lib.hid rfl
    generalize cnt v = C at *
    have q0 : World.cell? wE ⟨(w.heap.size + 1), 0, none⟩ = some (.int .i64 C.1) := hC.cell 0
    have f0 := hC.frozen 0
    have q1 : World.cell? wE ⟨(w.heap.size + 1), 1, none⟩ = some (.int .i64 C.2) := hC.cell 1
    have f1 := hC.frozen 1
    have fl := hC.lt
    have HH : Hid (∀ W, Below wE.heap.size wE W → W.cell? ⟨w.heap.size + 1, 0, none⟩ = some (.int .i64 C.1) ∧ W.cell? ⟨w.heap.size + 1, 1, none⟩ = some (.int .i64 C.2)) := Lib.hid (fun W hW => ⟨(hW.cell (p := ⟨w.heap.size + 1, 0, none⟩) hC.lt).trans (hC.cell 0), (hW.cell (p := ⟨w.heap.size + 1, 1, none⟩) hC.lt).trans (hC.cell 1)⟩)
    go_region_held3 (fun w' => w'.cell? ⟨w.heap.size + 1, 0, none⟩ = some (.int .i64 C.1) ∧ w'.cell? ⟨w.heap.size + 1, 1, none⟩ = some (.int .i64 C.2))
      (first | exact HH.out _ (Below.refl _ _) | exact HH.out _ (Below.drew (Below.refl _ _)) | exact HH.out _ hb9 | exact HH5.out)
      ((first
        | (go_at_call 41; (with_reducible refine (valid_any C wE.drew).mono ?_); rintro e w9 ⟨rfl, hb9'⟩; have hb9 : Below wE.heap.size wE w9 := bstep (Below.drew (Below.refl _ _)) hb9'; have hZ9 := hZ.keep hb9; have z0 : w9.cell? ⟨w.heap.size, 0, none⟩ = some (.int .i64 0) := hZ9.cell 0; have z1 : w9.cell? ⟨w.heap.size, 1, none⟩ = some (.int .i64 0) := hZ9.cell 1; have zf0 := hZ9.frozen 0; have zf1 := hZ9.frozen 1; have zl := hZ9.lt; have hC9 := hC.keep hb9; have HH5 := Lib.hid (show ((w9.setCell ⟨w.heap.size, 0, none⟩ (.int .i64 C.1)).setCell ⟨w.heap.size, 1, none⟩ (.int .i64 C.2)).cell? ⟨w.heap.size + 1, 0, none⟩ = some (.int .i64 C.1) ∧ ((w9.setCell ⟨w.heap.size, 0, none⟩ (.int .i64 C.1)).setCell ⟨w.heap.size, 1, none⟩ (.int .i64 C.2)).cell? ⟨w.heap.size + 1, 1, none⟩ = some (.int .i64 C.2) from ⟨((hC9.far (p := ⟨w.heap.size, 0, none⟩) (Nat.succ_ne_self _) _).far (p := ⟨w.heap.size, 1, none⟩) (Nat.succ_ne_self _) _).cell 0, ((hC9.far (p := ⟨w.heap.size, 0, none⟩) (Nat.succ_ne_self _) _).far (p := ⟨w.heap.size, 1, none⟩) (Nat.succ_ne_self _) _).cell 1⟩))))
    all_goals go_wp2
    refine bodyPost_ret (v := .tuple #[.agg #[.int .i64 C.1, .int .i64 C.2], .bool (validB C)]) (by simp [results, Try.results36, go_sem, z0, z1, zf0, zf1, zl]) rfl ?_
    rw [HP.out]
    exact ⟨rfl, by have hB := bstep hb hb9; (repeat (first | with_reducible exact Below.refl _ _ | assumption | with_reducible refine below_drewN ?_ _ | with_reducible refine Below.drew ?_ | with_reducible refine balloc ?_ _ | (with_reducible refine Below.setCell ?_ ?_ _; rotate_left; focus (first | (simp; done) | (simp; omega) | omega))))⟩
end Go.Proofs.Ytjhigfhgchpjcaa
