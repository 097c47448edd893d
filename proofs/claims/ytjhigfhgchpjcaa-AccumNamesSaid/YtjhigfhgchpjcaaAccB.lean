/-
  Contracts: accum.Check and what it calls.
-/
import Derived.Test.YtjhigfhgchpjcaaAccA
import Derived.Test.YtjhigfhgchpjcaaLagChk
namespace Go.Proofs.Ytjhigfhgchpjcaa
open Go.RowKit Runs Lagc
set_option linter.unusedVariables false
set_option linter.unusedSimpArgs false

/-- The three slices of an accumulator read as its lists. -/
structure RA (w : World) (S N G : Option Addr) (a : Acc) : Prop where
  s : RL w S a.s
  n : RL w N a.n
  g : RL w G a.g
theorem RA.keep {w w' : World} {S N G : Option Addr} {a : Acc} (h : RA w S N G a) (hb : Below w.heap.size w w') : RA w' S N G a := ⟨h.s.keep hb, h.n.keep hb, h.g.keep hb⟩

theorem wrong_dec {b : Bool} {least : Int} {c : Int × Int} (h : (b = false ∧ 0 ≤ c.2 ∧ c.2 < 1000000000 ∧ least ≤ c.1 ∧ c.1 < 1000000000) ∨ (b = true ∧ ¬ (0 ≤ c.2 ∧ c.2 < 1000000000 ∧ least ≤ c.1 ∧ c.1 < 1000000000))) : b = wrongB least c := by
  rcases h with ⟨rfl, h⟩ | ⟨rfl, h⟩
  · exact (wrongB_no.2 h).symm
  · cases e : wrongB least c
    · exact absurd (wrongB_no.1 e) h
    · rfl
theorem wrong_any (c : Int × Int) (least : Int) (g : Nat) (t : TypeId) (w : World) (hg : Blk w g t #[.int .i64 least]) :
    Calls Try.prog 38 #[.agg #[.int .i64 c.1, .int .i64 c.2], .pointer (some ⟨g, 0, none⟩)] w fun e w' => e = .returned (.bool (wrongB least c)) ∧ Below w.heap.size w w' := by
  have q0 : World.cell? w ⟨g, 0, none⟩ = some (.int .i64 least) := hg.cell 0
  have hlt := hg.lt
  go_enter Try.func38, Try.ntmps38
  go_wp2
  all_goals
    go_ret
    exact ⟨ret_bool (wrong_dec (by first | exact .inl ⟨rfl, by omega⟩ | exact .inr ⟨rfl, by omega⟩ | (simp; omega))), balloc (Below.refl _ _) _⟩

def SomeIdx (b : Bool) (w : World) (e : Ending) (w' : World) : Prop := ∃ r : Int, e = .returned (.int .i64 r) ∧ decide (0 ≤ r) = b ∧ Below w.heap.size w w'
theorem any_no {α : Type} {p : α → Bool} {l : List α} (h : ∀ x ∈ l, p x = false) : l.any p = false := by
  rw [Bool.eq_false_iff, Ne, List.any_eq_true]
  rintro ⟨x, hx, h2⟩
  rw [h x hx] at h2
  cases h2
theorem any_yes {α : Type} {p : α → Bool} {l : List α} {k : Nat} (hk : k < l.length) (h : p l[k] = true) : l.any p = true := by
  rw [List.any_eq_true]
  exact ⟨_, List.getElem_mem hk, h⟩
theorem SomeIdx.mk {b : Bool} {w w' : World} {r : Int} (h : decide (0 ≤ r) = b) (hb : Below w.heap.size w w') : SomeIdx b w (.returned (.int .i64 r)) w' := ⟨r, rfl, h, hb⟩
theorem index_any (A : Option Addr) (c : Nat) (l : List (Int × Int)) (least : Int) (g : Nat) (t : TypeId) (w : World) (hx : RL w A l) (hl : l.length ≤ 140737488355328) (hg : Blk w g t #[.int .i64 least]) :
    Calls Try.prog 53 #[.slice A l.length c, .func (.func 38) #[] #[.pointer (some ⟨g, 0, none⟩)]] w (SomeIdx (l.any (wrongB least)) w) := by
  go_enter Try.func53, Try.ntmps53
  go_wp2
  go_loopg [5, 8] l.length (fun gk _ i wr => ∃ k : Nat, k + gk = l.length ∧ i = .int .i64 k ∧ Below w.heap.size w wr ∧ Hid (∀ x ∈ l.take k, wrongB least x = false))
  case atStart => exact ⟨0, by omega, rfl, Below.refl _ _, Lib.hid (by simp)⟩
  case round =>
    obtain ⟨k, hk, rfl, hb, hall⟩ := hrel
    have hk' : k ≤ l.length := by omega
    have HK := Lib.hid hk
    clear hk
    by_cases hlt : k < l.length
    · obtain ⟨b, off, rfl, _, hc1, hc2⟩ := (hx.keep hb).at_ hlt
      rw [getD_lt _ _ hlt] at hc1 hc2
      by_cases hw : wrongB least l[k] = true
      · have HW := fun w hg => wrong_any l[k] least g t w hg
        rw [hw] at HW
        have HY := Lib.hid (any_yes hlt hw)
        clear hw
        go_wp2_with fail
        refine (HW _ (hg.keep hb)).mono ?_
        rintro _ w1 ⟨rfl, hb1⟩
        go_wp2
        go_ret
        exact SomeIdx.mk (by rw [HY.out]; simp) (bstep hb hb1)
      · have hw' : wrongB least l[k] = false := by simpa using hw
        have HW := fun w hg => wrong_any l[k] least g t w hg
        rw [hw'] at HW
        have HN := Lib.hid (takeAll_snoc hlt hall.out hw')
        clear hw hw'
        go_wp2_with fail
        refine (HW _ (hg.keep hb)).mono ?_
        rintro _ w1 ⟨rfl, hb1⟩
        go_wp2
        go_roundg (gk - 1)
        case rel => exact ⟨k + 1, by have := HK.out; omega, by go_num, bstep hb hb1, HN⟩
        case measure => have := HK.out; omega
    · go_wp2
      go_ret
      exact SomeIdx.mk (by rw [any_no (takeAll_end (by omega) hall.out)]; simp) hb
theorem contains_any (A : Option Addr) (c : Nat) (l : List (Int × Int)) (least : Int) (g : Nat) (t : TypeId) (w : World) (hx : RL w A l) (hl : l.length ≤ 140737488355328) (hg : Blk w g t #[.int .i64 least]) :
    Calls Try.prog 39 #[.slice A l.length c, .func (.func 38) #[] #[.pointer (some ⟨g, 0, none⟩)]] w fun e w' => e = .returned (.bool (l.any (wrongB least))) ∧ Below w.heap.size w w' := by
  go_enter Try.func39, Try.ntmps39
  go_wp2_with fail
  refine (index_any _ _ l least g t _ hx hl hg).mono ?_
  rintro _ w1 ⟨r, rfl, hr, hb1⟩
  have HR := Lib.hid hr
  clear hr
  go_wp2
  go_ret
  exact ⟨ret_bool (by rw [← HR.out]), hb1⟩
theorem areRuns_any (A : Option Addr) (c : Nat) (l : List (Int × Int)) (w : World) (hx : RL w A l) (hl : l.length ≤ 140737488355328) :
    Calls Try.prog 37 #[.slice A l.length c] w fun e w' => e = .returned (.bool (runB l)) ∧ Below w.heap.size w w' := by
  go_enter Try.func37, Try.ntmps37
  go_wp2
  go_loopg [3, 5, 8] l.length (fun gk z _ i wr => ∃ k : Nat, ∃ E : Int, k + gk = l.length ∧ i = .int .i64 k ∧ z = .int .i64 E ∧ -1 ≤ E ∧ E ≤ 1000000000 ∧ Below w.heap.size w wr ∧ Hid (E = if k = 0 then -1 else (l.getD (k - 1) (0, 0)).1 + (l.getD (k - 1) (0, 0)).2) ∧ Hid (∀ j, j < k → gOk l j = true))
  case atStart => exact ⟨0, -1, by omega, rfl, rfl, by omega, by omega, Below.refl _ _, Lib.hid rfl, Lib.hid (by intro j hj; omega)⟩
  case round =>
    obtain ⟨k, E, hk, rfl, rfl, hE1, hE2, hb, HE, hall⟩ := hrel
    have hk' : k ≤ l.length := by omega
    have HK := Lib.hid hk
    clear hk
    by_cases hlt : k < l.length
    · obtain ⟨b, off, rfl, _, hc1, hc2⟩ := (hx.keep hb).at_ hlt
      have HG : Hid (gOk l k = decide (0 ≤ (l.getD k (0, 0)).1 ∧ 1 ≤ (l.getD k (0, 0)).2 ∧ (l.getD k (0, 0)).1 + (l.getD k (0, 0)).2 ≤ 1000000000 ∧ (k = 0 ∨ E < (l.getD k (0, 0)).1))) := Lib.hid (by
        unfold gOk
        rw [HE.out]
        by_cases h0 : k = 0
        · simp [h0]
        · simp [h0])
      have HE2 : Hid (k = 0 → E = -1) := Lib.hid (by intro h; rw [HE.out, if_pos h])
      have HX : Hid ((l.getD k (0, 0)).1 + (l.getD k (0, 0)).2 = if k + 1 = 0 then -1 else (l.getD (k + 1 - 1) (0, 0)).1 + (l.getD (k + 1 - 1) (0, 0)).2) := Lib.hid (by simp)
      generalize (l.getD k (0, 0)).1 = x at *
      generalize (l.getD k (0, 0)).2 = y at *
      go_wp2
      all_goals first
        | (go_ret; exact ⟨ret_bool (runB_no hlt (by rw [HG.out, decide_eq_false_iff_not]; have := HE2.out; omega)).symm, hb.alloc hb.size _⟩)
        | (go_roundg (gk - 1)
           case rel => exact ⟨k + 1, x + y, by have := HK.out; omega, by go_num, rfl, by omega, by omega, hb.alloc hb.size _, HX, Lib.hid (all_lt_succ hall.out (by rw [HG.out, decide_eq_true_eq]; omega))⟩
           case measure => have := HK.out; omega)
    · go_wp2
      go_ret
      exact ⟨ret_bool (runB_all.2 (fun j hj => hall.out j (by omega))).symm, hb⟩
end Go.Proofs.Ytjhigfhgchpjcaa
