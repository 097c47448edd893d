/-
  Parts of the proof of TopCorrelate: AccB AccC AccD AccE.
-/
import Derived.Test.YtelkokcnedbmeaaGreatT06
import Derived.IntWalk
import Derived.Deep.RegionHeld3
namespace Go.Proofs.YtelkokcnedbmeaaGreat
open Go.RowKit Runs Lagc
set_option maxRecDepth 20000
set_option linter.unusedVariables false
set_option linter.unusedSimpArgs false
structure RA (w : World) (S N G : Option Addr) (a : Acc) : Prop where
 s : RL w S a.s
 n : RL w N a.n
 g : RL w G a.g
theorem RA.keep {w w' : World} {S N G : Option Addr} {a : Acc} (h : RA w S N G a) (hb : Below w.heap.size w w') : RA w' S N G a := ⟨h.s.keep hb, h.n.keep hb, h.g.keep hb⟩
theorem wrong_dec {b : Bool} {least : Int} {c : Int × Int} (h : (b = false ∧ 0 ≤ c.2 ∧ c.2 < 1000000000 ∧ least ≤ c.1 ∧ c.1 < 1000000000) ∨ (b = true ∧ ¬ (0 ≤ c.2 ∧ c.2 < 1000000000 ∧ least ≤ c.1 ∧ c.1 < 1000000000))) : b = wrongB least c := by
 rcases h with ⟨rfl, h⟩ | ⟨rfl, h⟩
 ·exact (wrongB_no.2 h).symm
 ·cases e : wrongB least c
  ·exact absurd (wrongB_no.1 e) h
  ·rfl
theorem wrong_any (c : Int × Int) (least : Int) (g : Nat) (t : TypeId) (w : World) (hg : Blk w g t #[.int .i64 least]) :
 Calls Tryz.prog 94 #[.agg #[.int .i64 c.1, .int .i64 c.2], .pointer (some ⟨g, 0, none⟩)] w fun e w' => e = .returned (.bool (wrongB least c)) ∧ Below w.heap.size w w' := by
 have q0 : World.cell? w ⟨g, 0, none⟩ = some (.int .i64 least) := hg.cell 0
 have hlt := hg.lt
 go_enter Tryz.func94, Tryz.ntmps94
 go_wp2
 all_goals
  go_ret
  exact ⟨ret_bool (wrong_dec (by first | exact .inl ⟨rfl, by omega⟩ | exact .inr ⟨rfl, by omega⟩ | (simp; omega))), balloc (Below.refl _ _) _⟩
def SomeIdx (b : Bool) (w : World) (e : Ending) (w' : World) : Prop := ∃ r : Int, e = .returned (.int .i64 r) ∧ decide (0 ≤ r) = b ∧ Below w.heap.size w w'
theorem any_no {α : Type} {p : α → Bool} {l : List α} (h : ∀ x ∈ l, p x = false) : l.any p = false := by
 rw [Bool.eq_false_iff, Ne, List.any_eq_true]
 rintro ⟨x, hx, h2⟩
 rw [h x hx] at h2
 cases h2
theorem any_yes {α : Type} {p : α → Bool} {l : List α} {k : Nat} (hk : k < l.length) (h : p l[k] = true) : l.any p = true := by
 rw [List.any_eq_true]
 exact ⟨_, List.getElem_mem hk, h⟩
theorem SomeIdx.mk {b : Bool} {w w' : World} {r : Int} (h : decide (0 ≤ r) = b) (hb : Below w.heap.size w w') : SomeIdx b w (.returned (.int .i64 r)) w' := ⟨r, rfl, h, hb⟩
theorem index_any (A : Option Addr) (c : Nat) (l : List (Int × Int)) (least : Int) (g : Nat) (t : TypeId) (w : World) (hx : RL w A l) (hl : l.length ≤ 140737488355328) (hg : Blk w g t #[.int .i64 least]) :
 Calls Tryz.prog 107 #[.slice A l.length c, .func (.func 94) #[] #[.pointer (some ⟨g, 0, none⟩)]] w (SomeIdx (l.any (wrongB least)) w) := by
 go_enter Tryz.func107, Tryz.ntmps107
 go_wp2
 go_loopg [5, 8] l.length (fun gk _ i wr => ∃ k : Nat, k + gk = l.length ∧ i = .int .i64 k ∧ Below w.heap.size w wr ∧ Hid (∀ x ∈ l.take k, wrongB least x = false))
 case atStart => exact ⟨0, by omega, rfl, Below.refl _ _, Lib.hid (by simp)⟩
 case round =>
  obtain ⟨k, hk, rfl, hb, hall⟩ := hrel
  have hk' : k ≤ l.length := by omega
  have HK := Lib.hid hk
  clear hk
  by_cases hlt : k < l.length
  ·obtain ⟨b, off, rfl, _, hc1, hc2⟩ := (hx.keep hb).at_ hlt
   rw [getD_lt _ _ hlt] at hc1 hc2
   by_cases hw : wrongB least l[k] = true
   ·have HW := fun w hg => wrong_any l[k] least g t w hg
    rw [hw] at HW
    have HY := Lib.hid (any_yes hlt hw)
    clear hw
    go_wp2_with fail
    refine (HW _ (hg.keep hb)).mono ?_
    rintro _ w1 ⟨rfl, hb1⟩
    go_wp2
    go_ret
    exact SomeIdx.mk (by rw [HY.out]; simp) (bstep hb hb1)
   ·have hw' : wrongB least l[k] = false := by simpa using hw
    have HW := fun w hg => wrong_any l[k] least g t w hg
    rw [hw'] at HW
    have HN := Lib.hid (takeAll_snoc hlt hall.out hw')
    clear hw hw'
    go_wp2_with fail
    refine (HW _ (hg.keep hb)).mono ?_
    rintro _ w1 ⟨rfl, hb1⟩
    go_wp2
    go_roundg (gk - 1)
    case rel => exact ⟨k + 1, by have := HK.out; omega, by go_num, bstep hb hb1, HN⟩
    case measure => have := HK.out; omega
  ·go_wp2
   go_ret
   exact SomeIdx.mk (by rw [any_no (takeAll_end (by omega) hall.out)]; simp) hb
theorem contains_any (A : Option Addr) (c : Nat) (l : List (Int × Int)) (least : Int) (g : Nat) (t : TypeId) (w : World) (hx : RL w A l) (hl : l.length ≤ 140737488355328) (hg : Blk w g t #[.int .i64 least]) :
 Calls Tryz.prog 95 #[.slice A l.length c, .func (.func 94) #[] #[.pointer (some ⟨g, 0, none⟩)]] w fun e w' => e = .returned (.bool (l.any (wrongB least))) ∧ Below w.heap.size w w' := by
 go_enter Tryz.func95, Tryz.ntmps95
 go_wp2_with fail
 refine (index_any _ _ l least g t _ hx hl hg).mono ?_
 rintro _ w1 ⟨r, rfl, hr, hb1⟩
 have HR := Lib.hid hr
 clear hr
 go_wp2
 go_ret
 exact ⟨ret_bool (by rw [← HR.out]), hb1⟩
theorem areRuns_any (A : Option Addr) (c : Nat) (l : List (Int × Int)) (w : World) (hx : RL w A l) (hl : l.length ≤ 140737488355328) :
 Calls Tryz.prog 93 #[.slice A l.length c] w fun e w' => e = .returned (.bool (runB l)) ∧ Below w.heap.size w w' := by
 go_enter Tryz.func93, Tryz.ntmps93
 go_wp2
 go_loopg [3, 5, 8] l.length (fun gk z _ i wr => ∃ k : Nat, ∃ E : Int, k + gk = l.length ∧ i = .int .i64 k ∧ z = .int .i64 E ∧ -1 ≤ E ∧ E ≤ 1000000000 ∧ Below w.heap.size w wr ∧ Hid (E = if k = 0 then -1 else (l.getD (k - 1) (0, 0)).1 + (l.getD (k - 1) (0, 0)).2) ∧ Hid (∀ j, j < k → gOk l j = true))
 case atStart => exact ⟨0, -1, by omega, rfl, rfl, by omega, by omega, Below.refl _ _, Lib.hid rfl, Lib.hid (by intro j hj; omega)⟩
 case round =>
  obtain ⟨k, E, hk, rfl, rfl, hE1, hE2, hb, HE, hall⟩ := hrel
  have hk' : k ≤ l.length := by omega
  have HK := Lib.hid hk
  clear hk
  by_cases hlt : k < l.length
  ·obtain ⟨b, off, rfl, _, hc1, hc2⟩ := (hx.keep hb).at_ hlt
   have HG : Hid (gOk l k = decide (0 ≤ (l.getD k (0, 0)).1 ∧ 1 ≤ (l.getD k (0, 0)).2 ∧ (l.getD k (0, 0)).1 + (l.getD k (0, 0)).2 ≤ 1000000000 ∧ (k = 0 ∨ E < (l.getD k (0, 0)).1))) := Lib.hid (by
    unfold gOk
    rw [HE.out]
    by_cases h0 : k = 0
    ·simp [h0]
    ·simp [h0])
   have HE2 : Hid (k = 0 → E = -1) := Lib.hid (by intro h; rw [HE.out, if_pos h])
   have HX : Hid ((l.getD k (0, 0)).1 + (l.getD k (0, 0)).2 = if k + 1 = 0 then -1 else (l.getD (k + 1 - 1) (0, 0)).1 + (l.getD (k + 1 - 1) (0, 0)).2) := Lib.hid (by simp)
   generalize (l.getD k (0, 0)).1 = x at *
   generalize (l.getD k (0, 0)).2 = y at *
   go_wp2
   all_goals first
    |(go_ret; exact ⟨ret_bool (runB_no hlt (by rw [HG.out, decide_eq_false_iff_not]; have := HE2.out; omega)).symm, hb.alloc hb.size _⟩)
    |(go_roundg (gk - 1)
      case rel => exact ⟨k + 1, x + y, by have := HK.out; omega, by go_num, rfl, by omega, by omega, hb.alloc hb.size _, HX, Lib.hid (all_lt_succ hall.out (by rw [HG.out, decide_eq_true_eq]; omega))⟩
      case measure => have := HK.out; omega)
  ·go_wp2
   go_ret
   exact ⟨ret_bool (runB_all.2 (fun j hj => hall.out j (by omega))).symm, hb⟩
end Go.Proofs.YtelkokcnedbmeaaGreat
namespace Go.Proofs.YtelkokcnedbmeaaGreat
open Go.RowKit Runs Lagc
set_option maxRecDepth 20000
set_option linter.unusedVariables false
set_option linter.unusedSimpArgs false
theorem err_many {a : Acc} (h : 511 < a.s.length ∨ 511 < a.n.length ∨ 64 < a.g.length) : accErr a = 4 := by unfold accErr; rw [if_pos h]
theorem err_form {a : Acc} (h : ¬ (511 < a.s.length ∨ 511 < a.n.length ∨ 64 < a.g.length)) (h2 : a.s.length ≠ a.n.length ∨ a.s.length % 2 = 0 ∨ runB a.g = false) : accErr a = 8 := by unfold accErr; rw [if_neg h, if_pos h2]
theorem err_val {a : Acc} (h : ¬ (511 < a.s.length ∨ 511 < a.n.length ∨ 64 < a.g.length)) (h2 : (a.s.any (wrongB (-1000000000)) || a.n.any (wrongB 0)) = true) : accErr a = 8 := by
 unfold accErr; rw [if_neg h]
 split
 ·rfl
 ·first | rw [if_pos h2] | rfl
theorem err_ok {a : Acc} (h : ¬ (511 < a.s.length ∨ 511 < a.n.length ∨ 64 < a.g.length)) (h1 : a.s.length = a.n.length) (h2 : ¬ a.s.length % 2 = 0) (h3 : runB a.g = true) (h4 : a.s.any (wrongB (-1000000000)) = false) (h5 : a.n.any (wrongB 0) = false) : accErr a = 0 := by
 unfold accErr; rw [if_neg h, if_neg (by rw [h3]; simp; omega), h4, h5]; rfl
set_option maxHeartbeats 1000000 in
theorem accCheck_any (S N G : Option Addr) (c1 c2 c3 : Nat) (a : Acc) (w : World) (hx : RA w S N G a) (l1 : a.s.length ≤ 140737488355328) (l2 : a.n.length ≤ 140737488355328) (l3 : a.g.length ≤ 140737488355328) :
 Calls Tryz.prog 62 #[.agg #[.slice S a.s.length c1, .slice N a.n.length c2, .slice G a.g.length c3]] w fun e w' => e = .returned (.int .i64 (accErr a)) ∧ Below w.heap.size w w' := by
 have hb0 : Below w.heap.size w (w.alloc (.cells #[.slice S a.s.length c1, .slice N a.n.length c2, .slice G a.g.length c3] 37)) := balloc (Below.refl _ _) _
 by_cases hm : 511 < a.s.length ∨ 511 < a.n.length ∨ 64 < a.g.length
 ·have HM := Lib.hid (err_many hm)
  have d1 : 511 < a.s.length ∨ (¬ 511 < a.s.length ∧ 511 < a.n.length) ∨ (¬ 511 < a.s.length ∧ ¬ 511 < a.n.length ∧ 64 < a.g.length) := by omega
  clear hm
  rcases d1 with h1 | ⟨h1, h2⟩ | ⟨h1, h2, h3⟩
  all_goals
   go_enter Tryz.func62, Tryz.ntmps62
   go_wp2
   go_ret
   exact ⟨ret_int HM.out.symm, hb0⟩
 have HM := Lib.hid hm
 have m1 : a.s.length ≤ 511 := by omega
 have m2 : a.n.length ≤ 511 := by omega
 have m3 : a.g.length ≤ 64 := by omega
 clear hm
 by_cases hlen : a.s.length = a.n.length
 ·have e1 : ((a.s.length : Int) != a.n.length) = false := by simp; omega
  have HL := Lib.hid hlen
  clear hlen
  by_cases hp : a.s.length % 2 = 0
  ·have e2 : ((a.s.length : Int) % 2 == 0) = true := by simp; omega
   have HF := Lib.hid (err_form HM.out (.inr (.inl hp)))
   clear hp
   go_enter Tryz.func62, Tryz.ntmps62
   go_wp2
   go_ret
   exact ⟨ret_int HF.out.symm, hb0⟩
  have e2 : ((a.s.length : Int) % 2 == 0) = false := by simp; omega
  have HP := Lib.hid hp
  clear hp
  have hBl := Blk.new w 37 #[.slice S a.s.length c1, .slice N a.n.length c2, .slice G a.g.length c3]
  have HR := fun w hx => areRuns_any G c3 a.g w hx l3
  by_cases hr : runB a.g = true
  ·rw [hr] at HR
   have HRN := Lib.hid hr
   clear hr
   have hmf : ∀ (fn : Fn) (first cap : Array Value) (w : World), (Instr.makeFunc fn first cap).run Tryz.prog w = .ok (.func fn first cap) w := fun _ _ _ _ => rfl
   go_enter Tryz.func62, Tryz.ntmps62
   go_wp2_with fail
   refine (HR _ (hx.g.keep hb0)).mono ?_
   rintro _ w1 ⟨rfl, hb1⟩
   have hB1 := bstep hb0 hb1
   have hBl1 := hBl.keep hb1
   have q0 : World.cell? w1 ⟨w.heap.size, 0, none⟩ = some (.slice S a.s.length c1) := hBl1.cell 0
   have f0 := hBl1.frozen 0
   have q1 : World.cell? w1 ⟨w.heap.size, 1, none⟩ = some (.slice N a.n.length c2) := hBl1.cell 1
   have f1 := hBl1.frozen 1
   have q2 : World.cell? w1 ⟨w.heap.size, 2, none⟩ = some (.slice G a.g.length c3) := hBl1.cell 2
   have f2 := hBl1.frozen 2
   have fl := hBl1.lt
   have hls := hB1.size
   by_cases hs : a.s.any (wrongB (-1000000000)) = true
   ·have HC := fun w g t hx hg => contains_any S c1 a.s (-1000000000) g t w hx l1 hg
    rw [hs] at HC
    have HV := Lib.hid (err_val HM.out (by rw [hs]; rfl))
    clear hs
    go_wp2_with fail
    refine (HC _ w1.heap.size 2 (hx.s.keep (hB1.alloc hls _)) (Blk.new w1 _ _)).mono ?_
    rintro _ w2 ⟨rfl, hb2⟩
    go_wp2
    go_ret
    exact ⟨ret_int HV.out.symm, bstep (hB1.alloc hls _) hb2⟩
   ·have hs' : a.s.any (wrongB (-1000000000)) = false := by simpa using hs
    have HC := fun w g t hx hg => contains_any S c1 a.s (-1000000000) g t w hx l1 hg
    rw [hs'] at HC
    have HS := Lib.hid hs'
    clear hs hs'
    go_wp2_with fail
    refine (HC _ w1.heap.size 2 (hx.s.keep (hB1.alloc hls _)) (Blk.new w1 _ _)).mono ?_
    rintro _ w2 ⟨rfl, hb2⟩
    have hB2 := bstep (hB1.alloc hls _) hb2
    have hK := (Blk.new w1 2 #[.int .i64 (-1000000000)]).keep hb2
    have hBl2 := (hBl1.alloc (.cells #[.int .i64 (-1000000000)] 2)).keep hb2
    have p0 : World.cell? w2 ⟨w1.heap.size, 0, none⟩ = some (.int .i64 (-1000000000)) := hK.cell 0
    have pf0 := hK.frozen 0
    have pfl := hK.lt
    have r0 : World.cell? w2 ⟨w.heap.size, 0, none⟩ = some (.slice S a.s.length c1) := hBl2.cell 0
    have rf0 := hBl2.frozen 0
    have r1 : World.cell? w2 ⟨w.heap.size, 1, none⟩ = some (.slice N a.n.length c2) := hBl2.cell 1
    have rf1 := hBl2.frozen 1
    have r2 : World.cell? w2 ⟨w.heap.size, 2, none⟩ = some (.slice G a.g.length c3) := hBl2.cell 2
    have rf2 := hBl2.frozen 2
    have rfl := hBl2.lt
    have hne : ¬ w.heap.size = w1.heap.size := by omega
    have hK3 := hK.put 0 (.int .i64 0)
    have hB3 := hB2.setCell (p := ⟨w1.heap.size, 0, none⟩) hls (.int .i64 0)
    clear q0 q1 q2
    by_cases hn : a.n.any (wrongB 0) = true
    ·have HD := fun w g t hx hg => contains_any N c2 a.n 0 g t w hx l2 hg
     rw [hn] at HD
     have HV := Lib.hid (err_val HM.out (by rw [hn]; simp))
     clear hn HC
     go_wp2_with fail
     refine (HD _ w1.heap.size 2 (hx.n.keep hB3) hK3).mono ?_
     rintro _ w3 ⟨rfl, hb3⟩
     go_wp2
     go_ret
     exact ⟨ret_int HV.out.symm, bstep hB3 hb3⟩
    ·have hn' : a.n.any (wrongB 0) = false := by simpa using hn
     have HD := fun w g t hx hg => contains_any N c2 a.n 0 g t w hx l2 hg
     rw [hn'] at HD
     have HV := Lib.hid (err_ok HM.out HL.out HP.out HRN.out HS.out hn')
     clear hn hn' HC
     go_wp2_with fail
     refine (HD _ w1.heap.size 2 (hx.n.keep hB3) hK3).mono ?_
     rintro _ w3 ⟨rfl, hb3⟩
     go_wp2
     go_ret
     exact ⟨ret_int HV.out.symm, bstep hB3 hb3⟩
  ·have hr' : runB a.g = false := by simpa using hr
   rw [hr'] at HR
   have HF := Lib.hid (err_form HM.out (.inr (.inr hr')))
   clear hr hr'
   go_enter Tryz.func62, Tryz.ntmps62
   go_wp2_with fail
   refine (HR _ (hx.g.keep hb0)).mono ?_
   rintro _ w1 ⟨rfl, hb1⟩
   go_wp2
   go_ret
   exact ⟨ret_int HF.out.symm, bstep hb0 hb1⟩
 ·have e1 : ((a.s.length : Int) != a.n.length) = true := by simp; omega
  have HF := Lib.hid (err_form HM.out (.inl hlen))
  clear hlen
  go_enter Tryz.func62, Tryz.ntmps62
  go_wp2
  go_ret
  exact ⟨ret_int HF.out.symm, hb0⟩
end Go.Proofs.YtelkokcnedbmeaaGreat
namespace Go.Proofs.YtelkokcnedbmeaaGreat
open Go.RowKit Runs Lagc
set_option maxRecDepth 20000
set_option linter.unusedVariables false
set_option linter.unusedSimpArgs false
theorem value_any (c : Int × Int) (w : World) (h : -1000000000 ≤ c.1 ∧ c.1 < 1000000000) (h2 : 0 ≤ c.2 ∧ c.2 < 1000000000) :
 Calls Tryz.prog 63 #[.agg #[.int .i64 c.1, .int .i64 c.2]] w fun e w' => e = .returned (.int .i64 (val c)) ∧ Below w.heap.size w w' := by
 go_enter Tryz.func63, Tryz.ntmps63
 go_wp2
 go_ret
 exact ⟨rfl, balloc (Below.refl _ _) _⟩
theorem tdm (v : Int) : (0 ≤ v ∧ v.tdiv 1000000000 = v / 1000000000 ∧ v.tmod 1000000000 = v % 1000000000) ∨ (v < 0 ∧ v.tdiv 1000000000 = -(-v / 1000000000) ∧ v.tmod 1000000000 = -(-v % 1000000000)) := by
 rcases Int.lt_or_le v 0 with h | h
 ·refine .inr ⟨h, ?_, ?_⟩
  ·rw [← Int.tdiv_eq_ediv_of_nonneg (by omega), Int.neg_tdiv, Int.neg_neg]
  ·rw [← Int.tmod_eq_emod_of_nonneg (by omega), Int.neg_tmod, Int.neg_neg]
 ·exact .inl ⟨h, Int.tdiv_eq_ediv_of_nonneg h, Int.tmod_eq_emod_of_nonneg h⟩
theorem cnt_neg {v : Int} (h : -1000000000000000000 ≤ v ∧ v ≤ 1000000000000000000) (h2 : v.tmod 1000000000 < 0) : wrap64 (v.tdiv 1000000000 - 1) = (cnt v).1 ∧ wrap64 (v.tmod 1000000000 + 1000000000) = (cnt v).2 := by
 unfold cnt
 rcases tdm v with ⟨h3, h4, h5⟩ | ⟨h3, h4, h5⟩
 ·omega
 ·rw [IntWalk.wrap64_in _ (by omega), IntWalk.wrap64_in _ (by omega)]
  simp only []
  omega
theorem cnt_pos {v : Int} (h2 : 0 ≤ v.tmod 1000000000) : v.tdiv 1000000000 = (cnt v).1 ∧ v.tmod 1000000000 = (cnt v).2 := by
 unfold cnt
 rcases tdm v with ⟨h3, h4, h5⟩ | ⟨h3, h4, h5⟩
 ·exact ⟨h4, h5⟩
 ·simp only []
  omega
theorem countOf_any (v : Int) (w : World) (h : -1000000000000000000 ≤ v ∧ v ≤ 1000000000000000000) :
 Calls Tryz.prog 64 #[.int .i64 v] w fun e w' => e = .returned (.agg #[.int .i64 (cnt v).1, .int .i64 (cnt v).2]) ∧ Below w.heap.size w w' := by
 go_enter Tryz.func64, Tryz.ntmps64
 go_wp2
 ·have hm : v.tmod 1000000000 < 0 := by assumption
  obtain ⟨e1, e2⟩ := cnt_neg h hm
  rw [e1, e2]
  exact bodyPost_ret (v := .agg #[.int .i64 (cnt v).1, .int .i64 (cnt v).2]) (by simp [results, Tryz.results64, go_sem]) rfl ⟨rfl, balloc (Below.refl _ _) _⟩
 ·have hm : 0 ≤ v.tmod 1000000000 := by assumption
  obtain ⟨e1, e2⟩ := cnt_pos hm
  rw [e1, e2]
  exact bodyPost_ret (v := .agg #[.int .i64 (cnt v).1, .int .i64 (cnt v).2]) (by simp [results, Tryz.results64, go_sem]) rfl ⟨rfl, balloc (Below.refl _ _) _⟩
def PlusPost (c d : Int × Int) (w : World) (e : Ending) (w' : World) : Prop := e = .returned (.tuple #[.agg #[.int .i64 (addC c d).1, .int .i64 (addC c d).2], .bool (inR (addC c d))]) ∧ Below w.heap.size w w'
theorem PlusPost.mk {c d : Int × Int} {w w' : World} {x y : Int} {b : Bool} (h2 : 0 ≤ c.2 ∧ c.2 < 1000000000) (k2 : 0 ≤ d.2 ∧ d.2 < 1000000000) (hv : x * 1000000000 + y = val c + val d) (hy : 0 ≤ y ∧ y < 1000000000) (hb : b = inR (x, y)) (hB : Below w.heap.size w w') : PlusPost c d w (.returned (.tuple #[.agg #[.int .i64 x, .int .i64 y], .bool b])) w' := by
 have e : addC c d = (x, y) := by
  unfold addC
  rw [← hv]
  exact cnt_val (c := (x, y)) hy.1 hy.2
 refine ⟨?_, hB⟩
 rw [e, hb]
set_option maxHeartbeats 400000 in
theorem plus_any (c d : Int × Int) (w : World) (h : -1000000000 ≤ c.1 ∧ c.1 < 1000000000) (h2 : 0 ≤ c.2 ∧ c.2 < 1000000000) (k : -1000000000 ≤ d.1 ∧ d.1 < 1000000000) (k2 : 0 ≤ d.2 ∧ d.2 < 1000000000) :
 Calls Tryz.prog 108 #[.agg #[.int .i64 c.1, .int .i64 c.2], .agg #[.int .i64 d.1, .int .i64 d.2]] w (PlusPost c d w) := by
 go_enter Tryz.func108, Tryz.ntmps108
 go_wp2
 go_quiet (fail)
 by_cases hc : 1000000000 ≤ c.2 + d.2
 ·by_cases hr : -1000000000 ≤ c.1 + d.1 + 1
  all_goals
   go_wp2
   refine bodyPost_ret (v := .tuple #[.agg #[.int .i64 (c.1 + d.1 + 1), .int .i64 (c.2 + d.2 - 1000000000)], _]) (by simp [results, Tryz.results108, go_sem]; rfl) rfl (PlusPost.mk h2 k2 (by unfold val; omega) (by omega) ?_ ?_)
   ·simp [inR]; omega
   ·repeat (first | with_reducible exact Below.refl _ _ | assumption | with_reducible refine below_drewN ?_ _ | with_reducible refine Below.drew ?_ | with_reducible refine balloc ?_ _ | (with_reducible refine Below.setCell ?_ ?_ _; rotate_left; focus (first | (simp; done) | (simp; omega) | omega)))
 ·by_cases hr : -1000000000 ≤ c.1 + d.1
  all_goals
   go_wp2
   refine bodyPost_ret (v := .tuple #[.agg #[.int .i64 (c.1 + d.1), .int .i64 (c.2 + d.2)], _]) (by simp [results, Tryz.results108, go_sem]; rfl) rfl (PlusPost.mk h2 k2 (by unfold val; omega) (by omega) ?_ ?_)
   ·simp [inR]; omega
   ·repeat (first | with_reducible exact Below.refl _ _ | assumption | with_reducible refine below_drewN ?_ _ | with_reducible refine Below.drew ?_ | with_reducible refine balloc ?_ _ | (with_reducible refine Below.setCell ?_ ?_ _; rotate_left; focus (first | (simp; done) | (simp; omega) | omega)))
end Go.Proofs.YtelkokcnedbmeaaGreat
namespace Go.Proofs.YtelkokcnedbmeaaGreat
open Go.RowKit Runs Lagc
set_option maxRecDepth 20000
set_option linter.unusedVariables false
set_option linter.unusedSimpArgs false
theorem info_count : (Tryz.prog.info? 115).map (fun i => (i.zero, i.size, i.bytes)) = some (some (.agg #[.int .i64 0, .int .i64 0]), 2, 16) := by kernel_rfl
theorem info_gap : (Tryz.prog.info? 118).map (fun i => (i.zero, i.size, i.bytes)) = some (some (.agg #[.int .i64 0, .int .i64 0]), 2, 16) := by kernel_rfl
def Fresh (base : Nat) (A : Option Addr) : Prop := ∀ x : Addr, A = some x → base ≤ x.block
theorem Fresh.none {base : Nat} : Fresh base Option.none := by intro x h; cases h
theorem Fresh.mk {base g : Nat} (h : base ≤ g) : Fresh base (some ⟨g, 0, Option.none⟩) := by intro x h2; cases h2; exact h
theorem Fresh.mono {base base' : Nat} {A : Option Addr} (h : Fresh base A) (hb : base' ≤ base) : Fresh base' A := fun x hx => Nat.le_trans hb (h x hx)
theorem own_fresh {w : World} {base : Nat} {e : TypeId} {size : Nat} {A : Option Addr} {c : Nat} {n : Nat} {xs : List Value} (h : w.ownsRow base e size (.slice A n c) n xs) : Fresh base A := by
 rcases h.2 with ⟨h1, _⟩ | ⟨g, cap, cur, h1, h2, _⟩
 ·injection h1 with h1; subst h1; exact Fresh.none
 ·injection h1 with h1; subst h1; exact Fresh.mk h2
theorem RL.far {w : World} {A : Option Addr} {l : List (Int × Int)} (h : RL w A l) {base : Nat} (hf : Fresh base A) {p : Addr} (hp : p.block < base) (u : Value) : RL (w.setCell p u) A l := by
 intro h0
 obtain ⟨b, off, e, hlt, hc⟩ := h h0
 have hb := hf _ e
 simp only at hb
 have hne : ∀ k, (w.setCell p u).cell? ⟨b, k, Option.none⟩ = w.cell? ⟨b, k, Option.none⟩ := fun k => by
  have h1 := Below.heap_setCell w p u b (by omega)
  simp [World.cell?, h1]
 refine ⟨b, off, e, by simpa [World.setCell] using hlt, fun j hj => ?_⟩
 rw [hne, hne]
 exact hc j hj
def RetLB (w : World) (r : List (Int × Int) × Bool) (e : Ending) (w' : World) : Prop :=
 ∃ A c, e = .returned (.tuple #[.slice A r.1.length c, .bool r.2]) ∧ RL w' A r.1 ∧ Fresh w.heap.size A ∧ Below w.heap.size w w'
theorem RetLB.no {w w' : World} {r : List (Int × Int) × Bool} (hr : r = ([], false)) (hb : Below w.heap.size w w') : RetLB w r (.returned (.tuple #[.slice none 0 0, .bool false])) w' := by
 subst hr; exact ⟨none, 0, rfl, RL.nil, Fresh.none, hb⟩
theorem RetLB.yes {w w' : World} {r : List (Int × Int) × Bool} {A : Option Addr} {n c : Nat} {l : List (Int × Int)} (hr : r = (l, true)) (hn : l.length = n) (hl : RL w' A l) (hf : Fresh w.heap.size A) (hb : Below w.heap.size w w') : RetLB w r (.returned (.tuple #[.slice A n c, .bool true])) w' := by
 subst hr; subst hn; exact ⟨A, c, rfl, hl, hf, hb⟩
def addS (a b : List (Int × Int)) : List (Int × Int) × Bool := if rngB a b then (addL a b, true) else ([], false)
theorem addS_yes {a b : List (Int × Int)} (h : rngB a b = true) : addS a b = (addL a b, true) := by simp [addS, h]
theorem addS_no {a b : List (Int × Int)} (h : rngB a b = false) : addS a b = ([], false) := by simp [addS, h]
def okC (x : Int × Int) : Prop := (-1000000000 ≤ x.1 ∧ x.1 < 1000000000) ∧ (0 ≤ x.2 ∧ x.2 < 1000000000)
set_option maxRecDepth 20000 in
set_option maxHeartbeats 1000000 in
theorem addAll_any (A B : Option Addr) (c d : Nat) (a b : List (Int × Int)) (w : World) (hx : RL w A a) (hy : RL w B b) (hla : a.length ≤ 511) (hlb : b.length = a.length) (ha : ∀ x ∈ a, okC x) (hb' : ∀ x ∈ b, okC x) :
 Calls Tryz.prog 97 #[.slice A a.length c, .slice B b.length d] w (RetLB w (addS a b)) := by
 obtain ⟨i0, hi0, hz0, hz1, hz2⟩ := info_parts info_count
 have hmk := mk_row (P := Tryz.prog) 34 115 Tryz.underlying34 hi0 hz0 hz1 hz2 encP encP_len (by omega) (0, 0) rfl a.length (by omega) (by omega)
 have HLB := Lib.hid hlb
 have hlb2 : a.length ≤ b.length := by omega
 have HA := Lib.hid ha
 have HB := Lib.hid hb'
 clear hlb ha hb'
 go_enter Tryz.func97, Tryz.ntmps97
 go_wp2
 go_loopg [7, 8, 9, 15] a.length (fun gk _ _ _ i wr => ∃ k : Nat, k + gk = a.length ∧ i = .int .i64 k ∧ Below w.heap.size w wr ∧ Blk wr w.heap.size 115 ((partL (addF a b) (0, 0) a.length k).flatMap encP).toArray ∧ Hid (∀ j, j < k → inR (addF a b j) = true))
 case atStart => exact ⟨0, by omega, rfl, balloc (Below.refl _ _) _, by rw [partL_start]; exact Blk.new _ _ _, Lib.hid (by intro j hj; omega)⟩
 case round =>
  obtain ⟨k, hk, rfl, hb, hO, hall⟩ := hrel
  have hk' : k ≤ a.length := by omega
  have HK := Lib.hid hk
  clear hk
  by_cases hlt : k < a.length
  ·have hltb : k < b.length := by omega
   obtain ⟨b1, off1, rfl, hl1, hc1, hd1⟩ := (hx.keep hb).at_ hlt
   obtain ⟨b2, off2, rfl, hl2, hc2, hd2⟩ := (hy.keep hb).at_ hltb
   obtain ⟨hx1, hx2⟩ : okC (a.getD k (0, 0)) := by rw [getD_lt _ _ hlt]; exact HA.out _ (List.getElem_mem _)
   obtain ⟨hy1, hy2⟩ : okC (b.getD k (0, 0)) := by rw [getD_lt _ _ hltb]; exact HB.out _ (List.getElem_mem _)
   have HF := Lib.hid (show addF a b k = addC (a.getD k (0, 0)) (b.getD k (0, 0)) from rfl)
   generalize a.getD k (0, 0) = x at *
   generalize b.getD k (0, 0) = y at *
   have HH : Hid (∀ W, Below wr.heap.size wr W → (W.cell? ⟨b1, off1 + k * 2, none⟩ = some (.int .i64 x.1) ∧ W.cell? ⟨b1, off1 + k * 2 + 1, none⟩ = some (.int .i64 x.2)) ∧ (W.cell? ⟨b2, off2 + k * 2, none⟩ = some (.int .i64 y.1) ∧ W.cell? ⟨b2, off2 + k * 2 + 1, none⟩ = some (.int .i64 y.2))) := Lib.hid (fun W hW => ⟨⟨(hW.cell (p := ⟨b1, _, none⟩) hl1).trans hc1, (hW.cell (p := ⟨b1, _, none⟩) hl1).trans hd1⟩, (hW.cell (p := ⟨b2, _, none⟩) hl2).trans hc2, (hW.cell (p := ⟨b2, _, none⟩) hl2).trans hd2⟩)
   go_wp2
   go_region_held3 (fun w' => (w'.cell? ⟨b1, off1 + k * 2, none⟩ = some (.int .i64 x.1) ∧ w'.cell? ⟨b1, off1 + k * 2 + 1, none⟩ = some (.int .i64 x.2)) ∧ (w'.cell? ⟨b2, off2 + k * 2, none⟩ = some (.int .i64 y.1) ∧ w'.cell? ⟨b2, off2 + k * 2 + 1, none⟩ = some (.int .i64 y.2)))
    (first | go_keep | exact HH.out _ hb9 | exact HH.out _ (balloc hb9 _) | exact HH.out _ ((hb9.setCell (p := ⟨wr.heap.size, 0, none⟩) (Nat.le_refl _) _).setCell (p := ⟨wr.heap.size, 1, none⟩) (Nat.le_refl _) _))
    ((first
      |(go_at_call 108; (with_reducible refine (plus_any x y wr.drew hx1 hx2 hy1 hy2).mono ?_); rintro e w9 ⟨rfl, hb9'⟩; have hb9 : Below wr.heap.size wr w9 := bstep (Below.drew (Below.refl _ _)) hb9')
      |(go_at_call 108; (with_reducible refine (plus_any x y (wr.alloc _).drew hx1 hx2 hy1 hy2).mono ?_); rintro e w9 ⟨rfl, hb9'⟩; have hb9 : Below wr.heap.size wr w9 := bstep (Below.drew (balloc (Below.refl _ _) _)) hb9'; have hZ := ((Blk.new wr 115 #[.int .i64 0, .int .i64 0]).drew).keep hb9'; have hy1' := hZ.frozen 0; have hy2' := hZ.frozen 1; have hy3 : w9.cell? ⟨wr.heap.size, 0, none⟩ = some (.int .i64 0) := hZ.cell 0; have hy4 : w9.cell? ⟨wr.heap.size, 1, none⟩ = some (.int .i64 0) := hZ.cell 1; have hy5 := hZ.lt)))
   all_goals clear hc1 hd1 hc2 hd2 HH
   ·have hO9 := hO.keep hb9
    have hB := bstep hb hb9
    have hBE : Below w.heap.size w (w9.alloc (.cells #[.int .i64 (addC x y).1, .int .i64 (addC x y).2] 115)) := (balloc hB _)
    have hOE : Blk (w9.alloc (.cells #[.int .i64 (addC x y).1, .int .i64 (addC x y).2] 115)) w.heap.size 115 ((partL (addF a b) (0, 0) a.length k).flatMap encP).toArray := (hO9.alloc _)
    have hNE : Blk (w9.alloc (.cells #[.int .i64 (addC x y).1, .int .i64 (addC x y).2] 115)) w9.heap.size 115 #[.int .i64 (addC x y).1, .int .i64 (addC x y).2] := Blk.new w9 115 #[.int .i64 (addC x y).1, .int .i64 (addC x y).2]
    obtain ⟨wE, hwE⟩ : ∃ wE, wE = (w9.alloc (.cells #[.int .i64 (addC x y).1, .int .i64 (addC x y).2] 115)) := ⟨_, rfl⟩
    rw [← hwE] at hBE hOE hNE ⊢
    clear hwE
    have p0 : World.cell? wE ⟨w9.heap.size, 0, none⟩ = some (.int .i64 (addC x y).1) := hNE.cell 0
    have pf0 := hNE.frozen 0
    have p1 : World.cell? wE ⟨w9.heap.size, 1, none⟩ = some (.int .i64 (addC x y).2) := hNE.cell 1
    have pf1 := hNE.frozen 1
    have pfl := hNE.lt
    obtain ⟨o1, o2⟩ := blkP_at hOE (j := k) (by rw [partL_len]; exact hlt)
    have of1 := hOE.frozen (k * 2)
    have of2 := hOE.frozen (k * 2 + 1)
    have olt := hOE.lt
    by_cases hr : inR (addC x y) = true
    ·have HR := Lib.hid (HF.out ▸ hr)
     rw [hr]
     clear hr
     go_wp2
     go_roundg (gk - 1)
     case rel => exact ⟨k + 1, by have := HK.out; omega, by go_num, (hBE.setCell (p := ⟨w.heap.size, k * 2, none⟩) (Nat.le_refl _) _).setCell (p := ⟨w.heap.size, k * 2 + 1, none⟩) (Nat.le_refl _) _, by rw [← partL_set (addF a b) (0, 0) a.length k (addC x y) HF.out.symm]; exact blkP_set hOE (by rw [partL_len]; exact hlt) (addC x y), Lib.hid (all_lt_succ hall.out HR.out)⟩
     case measure => have := HK.out; omega
    ·have hr' : inR (addC x y) = false := by simpa using hr
     have HR : Hid (inR (addF a b k) = false) := Lib.hid (by rw [HF.out]; exact hr')
     rw [hr']
     clear hr hr'
     go_wp2
     go_ret2
     exact RetLB.no (addS_no (rngB_no hlt HR.out)) hBE
   ·have hO9 := hO.keep hb9
    have hB := bstep hb hb9
    have hsz := hb.size
    have hne : w.heap.size ≠ wr.heap.size := by have := hO.lt; omega
    have hBE : Below w.heap.size w ((w9.setCell ⟨wr.heap.size, 0, none⟩ (.int .i64 (addC x y).1)).setCell ⟨wr.heap.size, 1, none⟩ (.int .i64 (addC x y).2)) := ((hB.setCell (p := ⟨wr.heap.size, 0, none⟩) hsz _).setCell (p := ⟨wr.heap.size, 1, none⟩) hsz _)
    have hOE : Blk ((w9.setCell ⟨wr.heap.size, 0, none⟩ (.int .i64 (addC x y).1)).setCell ⟨wr.heap.size, 1, none⟩ (.int .i64 (addC x y).2)) w.heap.size 115 ((partL (addF a b) (0, 0) a.length k).flatMap encP).toArray := ((hO9.far (p := ⟨wr.heap.size, 0, none⟩) hne _).far (p := ⟨wr.heap.size, 1, none⟩) hne _)
    have hNE : Blk ((w9.setCell ⟨wr.heap.size, 0, none⟩ (.int .i64 (addC x y).1)).setCell ⟨wr.heap.size, 1, none⟩ (.int .i64 (addC x y).2)) wr.heap.size 115 #[.int .i64 (addC x y).1, .int .i64 (addC x y).2] := ((hZ.put 0 (.int .i64 (addC x y).1)).put 1 (.int .i64 (addC x y).2))
    obtain ⟨wE, hwE⟩ : ∃ wE, wE = ((w9.setCell ⟨wr.heap.size, 0, none⟩ (.int .i64 (addC x y).1)).setCell ⟨wr.heap.size, 1, none⟩ (.int .i64 (addC x y).2)) := ⟨_, rfl⟩
    rw [← hwE] at hBE hOE hNE ⊢
    clear hwE
    have p0 : World.cell? wE ⟨wr.heap.size, 0, none⟩ = some (.int .i64 (addC x y).1) := hNE.cell 0
    have pf0 := hNE.frozen 0
    have p1 : World.cell? wE ⟨wr.heap.size, 1, none⟩ = some (.int .i64 (addC x y).2) := hNE.cell 1
    have pf1 := hNE.frozen 1
    have pfl := hNE.lt
    obtain ⟨o1, o2⟩ := blkP_at hOE (j := k) (by rw [partL_len]; exact hlt)
    have of1 := hOE.frozen (k * 2)
    have of2 := hOE.frozen (k * 2 + 1)
    have olt := hOE.lt
    by_cases hr : inR (addC x y) = true
    ·have HR := Lib.hid (HF.out ▸ hr)
     rw [hr]
     clear hr
     go_wp2
     go_roundg (gk - 1)
     case rel => exact ⟨k + 1, by have := HK.out; omega, by go_num, (hBE.setCell (p := ⟨w.heap.size, k * 2, none⟩) (Nat.le_refl _) _).setCell (p := ⟨w.heap.size, k * 2 + 1, none⟩) (Nat.le_refl _) _, by rw [← partL_set (addF a b) (0, 0) a.length k (addC x y) HF.out.symm]; exact blkP_set hOE (by rw [partL_len]; exact hlt) (addC x y), Lib.hid (all_lt_succ hall.out HR.out)⟩
     case measure => have := HK.out; omega
    ·have hr' : inR (addC x y) = false := by simpa using hr
     have HR : Hid (inR (addF a b k) = false) := Lib.hid (by rw [HF.out]; exact hr')
     rw [hr']
     clear hr hr'
     go_wp2
     go_ret2
     exact RetLB.no (addS_no (rngB_no hlt HR.out)) hBE
  ·obtain rfl : k = a.length := by omega
   go_wp2
   go_ret2
   exact RetLB.yes (addS_yes (rngB_yes hall.out)) (fullL_len _ _) (by unfold addL; rw [← partL_end _ (0, 0) _ _ (Nat.le_refl _)]; exact blk_RL hO) (Fresh.mk (Nat.le_refl _)) hb
end Go.Proofs.YtelkokcnedbmeaaGreat
