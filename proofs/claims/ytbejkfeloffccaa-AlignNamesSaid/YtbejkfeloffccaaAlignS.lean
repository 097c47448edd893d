/-
  Contract: fringeref14.Same.
-/
import Derived.Test.YtbejkfeloffccaaAlignP
namespace Go.Proofs.Ytbejkfeloffccaa
open Go.RowKit
set_option linter.unusedVariables false

theorem quiet_draws {P : Program} {f : FuncId} {args : Array Value} {w : World} {a n : Nat} {v : Value}
    (h : Calls P f args ((w.drewN a).drewN n) fun e w' => e = .returned v ∧ ∃ m, w' = ((w.drewN a).drewN n).drewN m) :
    Calls P f args (w.drewN (a + n)) fun e w'' => e = .returned v ∧ ∃ m, w'' = w.drewN (a + m) := by
  rw [← World.drewN_drewN]
  exact h.mono fun _ _ ⟨he, m, hm⟩ => ⟨he, n + m, by rw [hm]; simp only [World.drewN_drewN, Nat.add_assoc]⟩
set_option maxHeartbeats 4000000 in
theorem same14_any (A B : Option Addr) (c d : Nat) (l l' : List (Int × List Int)) (w : World) (hx : RB w A l) (hy : RB w B l') (hl : l.length ≤ 140737488355328) (hl2 : l'.length ≤ 140737488355328) (hall : ∀ b ∈ l, b.2.length ≤ 140737488355328) (hall' : ∀ b ∈ l', b.2.length ≤ 140737488355328) :
    Calls Try.prog 29 #[.slice A l.length c, .slice B l'.length d] w fun e w' => e = .returned (.bool (decide (l = l'))) ∧ ∃ n, w' = w.drewN n := by
  have HALL := Lib.hid (And.intro hall hall')
  clear hall hall'
  by_cases hlen : l.length = l'.length
  · have h2 : ((l.length : Int) != l'.length) = false := by simp; omega
    have hle : l.length ≤ l'.length := by omega
    have HL := Lib.hid hlen
    clear hlen
    go_enter Try.func29, Try.ntmps29
    go_wp2
    go_loopg [5] l.length (fun gk i wr => ∃ k n : Nat, k + gk = l.length ∧ i = .int .i64 k ∧ wr = w.drewN n ∧ Hid (∀ j, j < k → l.getD j (0, []) = l'.getD j (0, [])))
    case atStart => exact ⟨0, 0, by omega, rfl, rfl, Lib.hid (by simp)⟩
    case round =>
      obtain ⟨k, n, hk, rfl, rfl, hall⟩ := hrel
      have hk' : k ≤ l.length := by omega
      have HK := Lib.hid hk
      clear hk
      by_cases hlt : k < l.length
      · have hlt2 := Nat.lt_of_lt_of_le hlt hle
        obtain ⟨b1, off1, A1, c1, rfl, _, hc1, hc2, hr, _⟩ := hx.at_ hlt
        obtain ⟨b2, off2, A2, c2, rfl, _, hd1, hd2, hr', _⟩ := hy.at_ hlt2
        have hn1 := HALL.out.1 _ (List.getElem_mem hlt)
        have hn2 := HALL.out.2 _ (List.getElem_mem hlt2)
        have hS := fun m => same13_any A1 A2 c1 c2 l[k].2 l'[k].2 ((w.drewN n).drewN m) (hr.keep (below_drewN (below_drewN (Below.refl _ _) _) _)) (hr'.keep (below_drewN (below_drewN (Below.refl _ _) _) _)) hn1 hn2
        by_cases ha : l[k].1 = l'[k].1
        · have ea : (l[k].1 != l'[k].1) = false := by simp [ha]
          by_cases hs : l[k].2 = l'[k].2
          · have ds : decide (l[k].2 = l'[k].2) = true := decide_eq_true hs
            have HV : Hid (l[k] = l'[k]) := Lib.hid (Prod.ext ha hs)
            clear ha hs
            go_wp2
            go_quiet ((go_at_call 15; exact quiet_draws (hS _)))
            go_wp2
            go_roundg (gk - 1)
            case rel => exact ⟨k + 1, _, by have := HK.out; omega, by go_num, rfl, Lib.hid (all_lt_succ hall.out (by rw [getD_lt _ _ hlt, getD_lt _ _ hlt2]; exact HV.out))⟩
            case measure => have := HK.out; omega
          · have ds : decide (l[k].2 = l'[k].2) = false := decide_eq_false hs
            have HV : Hid (¬ l[k] = l'[k]) := Lib.hid (fun h => hs (by rw [h]))
            clear ha hs
            go_wp2
            go_quiet ((go_at_call 15; exact quiet_draws (hS _)))
            go_wp2
            go_ret
            refine ⟨ret_bool (list_ne_getD (k := k) (d := (0, [])) (by rw [getD_lt _ _ hlt, getD_lt _ _ hlt2]; exact HV.out)).symm, ?_⟩
            simp only [World.drewN_drewN]
            exact ⟨_, rfl⟩
        · have ea : (l[k].1 != l'[k].1) = true := by simp [ha]
          have HV : Hid (¬ l[k] = l'[k]) := Lib.hid (fun h => ha (by rw [h]))
          clear ha hS
          go_wp2
          go_quiet (fail)
          go_wp2
          go_ret
          refine ⟨ret_bool (list_ne_getD (k := k) (d := (0, [])) (by rw [getD_lt _ _ hlt, getD_lt _ _ hlt2]; exact HV.out)).symm, ?_⟩
          simp only [World.drewN_drewN]
          exact ⟨_, rfl⟩
      · go_wp2
        go_ret
        refine ⟨ret_bool ?_, _, rfl⟩
        symm
        rw [decide_eq_true_eq]
        exact list_ext_getD HL.out (fun j hj => hall.out j (by omega))
  · have h2 : ((l.length : Int) != l'.length) = true := by simp; omega
    go_enter Try.func29, Try.ntmps29
    go_wp2
    go_ret
    exact ⟨ret_bool (by symm; simp; intro h; exact hlen (by rw [h])), 0, rfl⟩

/-- A call that only draws changes nothing. -/
theorem low_of {P : Program} {f : FuncId} {args : Array Value} {w : World} {v : Value} (h : Calls P f args w fun e w' => e = .returned v ∧ ∃ n, w' = w.drewN n) : Calls P f args w fun e w' => e = .returned v ∧ Below w.heap.size w w' :=
  h.mono fun _ _ ⟨h1, n, h2⟩ => ⟨h1, by subst h2; exact below_drewN (Below.refl _ _) n⟩
end Go.Proofs.Ytbejkfeloffccaa
