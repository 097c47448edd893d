/-
  Contract: accum.union.
-/
import Derived.Test.YtjhigfhgchpjcaaAccE
import Derived.Deep.Cut
namespace Go.Proofs.Ytjhigfhgchpjcaa
open Go.RowKit Runs Lagc
set_option linter.unusedVariables false
set_option linter.unusedSimpArgs false

theorem own_last {w : World} {base n : Nat} {e : TypeId} {g cap : Nat} {o : List (Int × Int)} {l : Int × Int} (hn : (o ++ [l]).length = n) (h : w.ownsRow base e 2 (.slice (some ⟨g, 0, none⟩) n cap) n ((o ++ [l]).flatMap encP)) :
    w.cell? ⟨g, (n - 1) * 2, none⟩ = some (.int .i64 l.1) ∧ w.cell? ⟨g, (n - 1) * 2 + 1, none⟩ = some (.int .i64 l.2) ∧
    ∀ y, (w.setCell ⟨g, (n - 1) * 2 + 1, none⟩ (.int .i64 y)).ownsRow base e 2 (.slice (some ⟨g, 0, none⟩) n cap) n ((o ++ [(l.1, y)]).flatMap encP) := by
  subst hn
  have hl : (o ++ [l]).length - 1 < (o ++ [l]).length := by simp
  have e0 : (o ++ [l])[(o ++ [l]).length - 1]'hl = l := by simp
  have h1 := own_at encP_len h hl (i := 0) (by omega)
  have h2 := own_at encP_len h hl (i := 1) (by omega)
  rw [e0] at h1 h2
  refine ⟨by simpa [encP] using h1, by simpa [encP] using h2, fun y => ?_⟩
  have h3 := (h.stored (((o ++ [l]).length - 1) * 2 + 1) (.int .i64 y)).1
  have e1 := flat_set encP 2 encP_len (o ++ [l]) ((o ++ [l]).length - 1) 1 (by omega) hl (.int .i64 y) (l.1, y) (by rw [e0]; rfl)
  rw [e1] at h3
  have e2 : (o ++ [l]).set ((o ++ [l]).length - 1) (l.1, y) = o ++ [(l.1, y)] := by simp
  rw [e2] at h3
  exact h3
theorem own_drewN {w : World} {base : Nat} {e : TypeId} {size : Nat} {v : Value} {n : Nat} {xs : List Value} (h : w.ownsRow base e size v n xs) (m : Nat) : (w.drewN m).ownsRow base e size v n xs := h
theorem uinv_len {a b r s out : List G} {i j n : Nat} (h : UInv (a.take i) (b.take j) r s out) (hn : out.length = n) : n ≤ i + j := by
  have h1 := h.len
  rw [List.length_take, List.length_take] at h1
  omega
theorem snoc_form {α : Type} {l : List α} (h : l ≠ []) : ∃ o x, l = o ++ [x] := ⟨l.dropLast, l.getLast h, (List.dropLast_concat_getLast h).symm⟩

set_option maxRecDepth 20000 in
set_option maxHeartbeats 1000000 in
theorem union_any (A B : Option Addr) (c d : Nat) (a b : List (Int × Int)) (w : World) (hx : RL w A a) (hy : RL w B b) (hla : a.length ≤ 100) (hlb : b.length ≤ 100) (ha : Rn a) (hb' : Rn b) :
    Calls Try.prog 51 #[.slice A a.length c, .slice B b.length d] w (RetLB w (uni a b)) := by
  obtain ⟨i0, hi0, hz0, hz1, hz2⟩ := info_parts info_gap
  have HA := Lib.hid ha
  have HB := Lib.hid hb'
  clear ha hb'
  go_enter Try.func51, Try.ntmps51
  go_wp2
  go_loopg [6, 7, 8, 9, 10, 11, 82, 87] (a.length + b.length) (fun gk v I J _ _ _ _ _ wr => ∃ i j n : Nat, ∃ out : List (Int × Int), Hid (i + j + gk = a.length + b.length) ∧ I = .int .i64 i ∧ J = .int .i64 j ∧ i ≤ a.length ∧ j ≤ b.length ∧ wr.ownsRow w.heap.size 62 2 v n (out.flatMap encP) ∧ Below w.heap.size w wr ∧ Hid (out.length = n) ∧ Hid (UInv (a.take i) (b.take j) (a.drop i) (b.drop j) out))
  case atStart => exact ⟨0, 0, 0, [], Lib.hid (by omega), rfl, rfl, by omega, by omega, by simpa using World.ownsRow_nil _ _ _ _, Below.refl _ _, Lib.hid rfl, Lib.hid (uinv_start a b)⟩
  case round =>
    obtain ⟨i, j, n, out, HK, rfl, rfl, hi, hj, hO, hb, HN, HU⟩ := hrel
    obtain ⟨A6, c6, rfl⟩ := own_shape hO
    have hsz := hb.size
    have hn := uinv_len HU.out HN.out
    by_cases hje : j < b.length
    · have ej : ((j : Int) == b.length) = false := by rw [beq_eq_false_iff_ne]; omega
      obtain ⟨b2, off2, rfl, hl2, hc2, hd2⟩ := (hy.keep hb).at_ hje
      rw [getD_lt _ _ hje] at hc2 hd2
      have hok2 := HB.out.1 _ (List.getElem_mem hje)
      unfold okG at hok2
      by_cases hie : i < a.length
      · obtain ⟨b1, off1, rfl, hl1, hc1, hd1⟩ := (hx.keep hb).at_ hie
        rw [getD_lt _ _ hie] at hc1 hd1
        have hok := HA.out.1 _ (List.getElem_mem hie)
        unfold okG at hok
        by_cases ht : a[i].1 < b[j].1
        · have HS := Lib.hid (stepA HU.out HA.out HB.out hie (fun h => Int.le_of_lt ht))
          have ht' : decide (a[i].1 < b[j].1) = true := by simpa using ht
          go_wp2
          go_quiet (fail)
          go_upto_region 10 with (fail)
          have hBE : Below w.heap.size w ((((wr.alloc (.cells #[.int .i64 0, .int .i64 0] 62)).drewN nq).setCell ⟨wr.heap.size, 0, none⟩ (.int .i64 (a[i]).1)).setCell ⟨wr.heap.size, 1, none⟩ (.int .i64 (a[i]).2)) := ((below_drewN (balloc hb _) _).setCell (p := ⟨wr.heap.size, 0, none⟩) hsz _).setCell (p := ⟨wr.heap.size, 1, none⟩) hsz _
          have hNE : Blk ((((wr.alloc (.cells #[.int .i64 0, .int .i64 0] 62)).drewN nq).setCell ⟨wr.heap.size, 0, none⟩ (.int .i64 (a[i]).1)).setCell ⟨wr.heap.size, 1, none⟩ (.int .i64 (a[i]).2)) wr.heap.size 62 #[.int .i64 (a[i]).1, .int .i64 (a[i]).2] := (((Blk.new wr 62 #[.int .i64 0, .int .i64 0]).drewN nq).put 0 (.int .i64 (a[i]).1)).put 1 (.int .i64 (a[i]).2)
          have hbW : Below wr.heap.size wr ((((wr.alloc (.cells #[.int .i64 0, .int .i64 0] 62)).drewN nq).setCell ⟨wr.heap.size, 0, none⟩ (.int .i64 (a[i]).1)).setCell ⟨wr.heap.size, 1, none⟩ (.int .i64 (a[i]).2)) := ((below_drewN (balloc (Below.refl _ _) _) _).setCell (p := ⟨wr.heap.size, 0, none⟩) (Nat.le_refl _) _).setCell (p := ⟨wr.heap.size, 1, none⟩) (Nat.le_refl _) _
          have hOE := own_keep hO hbW
          obtain ⟨wE, hwE⟩ : ∃ wE, wE = ((((wr.alloc (.cells #[.int .i64 0, .int .i64 0] 62)).drewN nq).setCell ⟨wr.heap.size, 0, none⟩ (.int .i64 (a[i]).1)).setCell ⟨wr.heap.size, 1, none⟩ (.int .i64 (a[i]).2)) := ⟨_, rfl⟩
          rw [← hwE] at hBE hNE hOE ⊢
          clear hwE hbW
          have hszE := hBE.size
          have p0 : World.cell? wE ⟨wr.heap.size, 0, none⟩ = some (.int .i64 (a[i]).1) := hNE.cell 0
          have pf0 := hNE.frozen 0
          have p1 : World.cell? wE ⟨wr.heap.size, 1, none⟩ = some (.int .i64 (a[i]).2) := hNE.cell 1
          have pf1 := hNE.frozen 1
          have pfl := hNE.lt
          by_cases hn0 : n = 0
          · subst hn0
            have ho : out = [] := List.length_eq_zero_iff.1 HN.out
            have HU2 := Lib.hid (HS.out.1 ho)
            subst ho
            go_wp2_with (at_builtin; refine wpList_append_own _ rfl _ _ 23 rfl w.heap.size 62 i0 _ 2 16 Try.underlying23 hi0 hz0 hz1 hz2 rfl (by decide) _ 0 _ rfl (hOE.alloc _) ⟨wE.heap.size, 0, none⟩ 1 1 (encP (a[i])) rfl rfl (encP_news _ _ _) (encP_one _) (by unfold maxLen; omega) (by omega) (by simp; omega) ?_; intro v' w2 hown2 hgrow2 _)
            go_roundg (gk - 1)
            case rel => exact ⟨(i + 1), j, 1, [a[i]], Lib.hid (by have := HK.out; omega), by go_num, by go_num, by omega, by omega, by simpa using hown2, own_below (hBE.alloc hszE _) (hOE.alloc _) hgrow2 (Nat.le_refl _) (by simp; omega), Lib.hid rfl, HU2⟩
            case measure => have := HK.out; omega
          · have en : ((n : Int) == 0) = false := by rw [beq_eq_false_iff_ne]; omega
            have hp : 0 < n := by omega
            obtain ⟨g, rfl, hg1, hg2⟩ := own_some hO hp
            have hne : out ≠ [] := by intro e; have := HN.out; rw [e] at this; simp at this; omega
            obtain ⟨o, l, rfl⟩ := snoc_form hne
            clear hne
            obtain ⟨HS1, HS2, HS3⟩ := HS.out.2 o l rfl
            have hrl := (Rn_split.1 HU.out.rn).2.1.head
            unfold okG at hrl
            obtain ⟨o0, o1, HO⟩ := own_last HN.out hOE
            have HOS := Lib.hid HO
            have p1 := hOE.frozenAt ((n - 1) * 2 + 1)
            have p0 := hOE.frozenAt ((n - 1) * 2)
            have HT1 := Lib.hid HS1
            have HT2 := Lib.hid HS2
            have HT3 := Lib.hid HS3
            clear HS1 HS2 HS3 HS HO
            obtain ⟨E, hE⟩ : ∃ E, E = l.1 + l.2 := ⟨_, rfl⟩
            have hwE : IntKind.i64.wrap (l.1 + l.2) = E := by rw [IntWalk.i64_in _ (by omega), hE]
            have hwF : IntKind.i64.wrap (l.2 + (a[i]).2) = l.2 + (a[i]).2 := IntWalk.i64_in _ (by omega)
            rw [← hE] at HT1 HT2 HT3
            have HE := Lib.hid hE
            clear hE
            have hne2 : ¬ g = wr.heap.size := by omega
            by_cases c1 : (a[i]).1 < E
            · go_wp2
              go_quiet (fail)
              go_wp2
              go_ret2
              exact RetLB.no (HT1.out c1) (by (repeat (first | with_reducible exact Below.refl _ _ | assumption | with_reducible refine below_drewN ?_ _ | with_reducible refine Below.drew ?_ | with_reducible refine balloc ?_ _ | (with_reducible refine Below.setCell ?_ ?_ _; rotate_left; focus (first | (simp; done) | (simp; omega) | omega)))))
            by_cases c2 : (a[i]).1 = E
            · have c2' : ((a[i]).1 == E) = true := by rw [beq_iff_eq]; exact c2
              have HU2 := Lib.hid (HT2.out c2)
              clear c2
              go_wp2
              go_quiet (fail)
              go_wp2
              go_region
              go_wp2
              go_roundg (gk - 1)
              case rel => exact ⟨(i + 1), j, n, o ++ [(l.1, l.2 + (a[i]).2)], Lib.hid (by have := HK.out; omega), by go_num, by go_num, by omega, by omega, HOS.out _, by (repeat (first | with_reducible exact Below.refl _ _ | assumption | with_reducible refine below_drewN ?_ _ | with_reducible refine Below.drew ?_ | with_reducible refine balloc ?_ _ | (with_reducible refine Below.setCell ?_ ?_ _; rotate_left; focus (first | (simp; done) | (simp; omega) | omega)))), Lib.hid (by have := HN.out; simp at this ⊢; omega), HU2⟩
              case measure => have := HK.out; omega
            · have c2' : ((a[i]).1 == E) = false := by rw [beq_eq_false_iff_ne]; exact c2
              have HU2 := Lib.hid (HT3.out (by omega))
              clear c2
              go_wp2
              go_quiet (fail)
              go_wp2_with (at_builtin; refine wpList_append_own _ rfl _ _ 23 rfl w.heap.size 62 i0 _ 2 16 Try.underlying23 hi0 hz0 hz1 hz2 rfl (by decide) _ n _ rfl ((own_drewN hOE _).alloc _) ⟨wE.heap.size, 0, none⟩ 1 1 (encP (a[i])) rfl rfl (encP_news _ _ _) (encP_one _) (by unfold maxLen; omega) (by omega) (by simp; omega) ?_; intro v' w2 hown2 hgrow2 _)
              go_roundg (gk - 1)
              case rel => exact ⟨(i + 1), j, n + 1, (o ++ [l]) ++ [a[i]], Lib.hid (by have := HK.out; omega), by go_num, by go_num, by omega, by omega, by rw [flat_snoc]; exact hown2, own_below (balloc (below_drewN hBE _) _) ((own_drewN hOE _).alloc _) hgrow2 (Nat.le_refl _) (by simp; omega), Lib.hid (by have := HN.out; simp at this ⊢; omega), HU2⟩
              case measure => have := HK.out; omega
        · have HS := Lib.hid (stepB HU.out HA.out HB.out hje (fun h => by omega))
          have ht' : decide (a[i].1 < b[j].1) = false := by simpa using ht
          go_wp2
          go_quiet (fail)
          go_upto_region 10 with (fail)
          have hBE : Below w.heap.size w ((((wr.alloc (.cells #[.int .i64 0, .int .i64 0] 62)).drewN nq).setCell ⟨wr.heap.size, 0, none⟩ (.int .i64 (b[j]).1)).setCell ⟨wr.heap.size, 1, none⟩ (.int .i64 (b[j]).2)) := ((below_drewN (balloc hb _) _).setCell (p := ⟨wr.heap.size, 0, none⟩) hsz _).setCell (p := ⟨wr.heap.size, 1, none⟩) hsz _
          have hNE : Blk ((((wr.alloc (.cells #[.int .i64 0, .int .i64 0] 62)).drewN nq).setCell ⟨wr.heap.size, 0, none⟩ (.int .i64 (b[j]).1)).setCell ⟨wr.heap.size, 1, none⟩ (.int .i64 (b[j]).2)) wr.heap.size 62 #[.int .i64 (b[j]).1, .int .i64 (b[j]).2] := (((Blk.new wr 62 #[.int .i64 0, .int .i64 0]).drewN nq).put 0 (.int .i64 (b[j]).1)).put 1 (.int .i64 (b[j]).2)
          have hbW : Below wr.heap.size wr ((((wr.alloc (.cells #[.int .i64 0, .int .i64 0] 62)).drewN nq).setCell ⟨wr.heap.size, 0, none⟩ (.int .i64 (b[j]).1)).setCell ⟨wr.heap.size, 1, none⟩ (.int .i64 (b[j]).2)) := ((below_drewN (balloc (Below.refl _ _) _) _).setCell (p := ⟨wr.heap.size, 0, none⟩) (Nat.le_refl _) _).setCell (p := ⟨wr.heap.size, 1, none⟩) (Nat.le_refl _) _
          have hOE := own_keep hO hbW
          obtain ⟨wE, hwE⟩ : ∃ wE, wE = ((((wr.alloc (.cells #[.int .i64 0, .int .i64 0] 62)).drewN nq).setCell ⟨wr.heap.size, 0, none⟩ (.int .i64 (b[j]).1)).setCell ⟨wr.heap.size, 1, none⟩ (.int .i64 (b[j]).2)) := ⟨_, rfl⟩
          rw [← hwE] at hBE hNE hOE ⊢
          clear hwE hbW
          have hszE := hBE.size
          have p0 : World.cell? wE ⟨wr.heap.size, 0, none⟩ = some (.int .i64 (b[j]).1) := hNE.cell 0
          have pf0 := hNE.frozen 0
          have p1 : World.cell? wE ⟨wr.heap.size, 1, none⟩ = some (.int .i64 (b[j]).2) := hNE.cell 1
          have pf1 := hNE.frozen 1
          have pfl := hNE.lt
          by_cases hn0 : n = 0
          · subst hn0
            have ho : out = [] := List.length_eq_zero_iff.1 HN.out
            have HU2 := Lib.hid (HS.out.1 ho)
            subst ho
            go_wp2_with (at_builtin; refine wpList_append_own _ rfl _ _ 23 rfl w.heap.size 62 i0 _ 2 16 Try.underlying23 hi0 hz0 hz1 hz2 rfl (by decide) _ 0 _ rfl (hOE.alloc _) ⟨wE.heap.size, 0, none⟩ 1 1 (encP (b[j])) rfl rfl (encP_news _ _ _) (encP_one _) (by unfold maxLen; omega) (by omega) (by simp; omega) ?_; intro v' w2 hown2 hgrow2 _)
            go_roundg (gk - 1)
            case rel => exact ⟨i, (j + 1), 1, [b[j]], Lib.hid (by have := HK.out; omega), by go_num, by go_num, by omega, by omega, by simpa using hown2, own_below (hBE.alloc hszE _) (hOE.alloc _) hgrow2 (Nat.le_refl _) (by simp; omega), Lib.hid rfl, HU2⟩
            case measure => have := HK.out; omega
          · have en : ((n : Int) == 0) = false := by rw [beq_eq_false_iff_ne]; omega
            have hp : 0 < n := by omega
            obtain ⟨g, rfl, hg1, hg2⟩ := own_some hO hp
            have hne : out ≠ [] := by intro e; have := HN.out; rw [e] at this; simp at this; omega
            obtain ⟨o, l, rfl⟩ := snoc_form hne
            clear hne
            obtain ⟨HS1, HS2, HS3⟩ := HS.out.2 o l rfl
            have hrl := (Rn_split.1 HU.out.rn).2.1.head
            unfold okG at hrl
            obtain ⟨o0, o1, HO⟩ := own_last HN.out hOE
            have HOS := Lib.hid HO
            have p1 := hOE.frozenAt ((n - 1) * 2 + 1)
            have p0 := hOE.frozenAt ((n - 1) * 2)
            have HT1 := Lib.hid HS1
            have HT2 := Lib.hid HS2
            have HT3 := Lib.hid HS3
            clear HS1 HS2 HS3 HS HO
            obtain ⟨E, hE⟩ : ∃ E, E = l.1 + l.2 := ⟨_, rfl⟩
            have hwE : IntKind.i64.wrap (l.1 + l.2) = E := by rw [IntWalk.i64_in _ (by omega), hE]
            have hwF : IntKind.i64.wrap (l.2 + (b[j]).2) = l.2 + (b[j]).2 := IntWalk.i64_in _ (by omega)
            rw [← hE] at HT1 HT2 HT3
            have HE := Lib.hid hE
            clear hE
            have hne2 : ¬ g = wr.heap.size := by omega
            by_cases c1 : (b[j]).1 < E
            · go_wp2
              go_quiet (fail)
              go_wp2
              go_ret2
              exact RetLB.no (HT1.out c1) (by (repeat (first | with_reducible exact Below.refl _ _ | assumption | with_reducible refine below_drewN ?_ _ | with_reducible refine Below.drew ?_ | with_reducible refine balloc ?_ _ | (with_reducible refine Below.setCell ?_ ?_ _; rotate_left; focus (first | (simp; done) | (simp; omega) | omega)))))
            by_cases c2 : (b[j]).1 = E
            · have c2' : ((b[j]).1 == E) = true := by rw [beq_iff_eq]; exact c2
              have HU2 := Lib.hid (HT2.out c2)
              clear c2
              go_wp2
              go_quiet (fail)
              go_wp2
              go_region
              go_wp2
              go_roundg (gk - 1)
              case rel => exact ⟨i, (j + 1), n, o ++ [(l.1, l.2 + (b[j]).2)], Lib.hid (by have := HK.out; omega), by go_num, by go_num, by omega, by omega, HOS.out _, by (repeat (first | with_reducible exact Below.refl _ _ | assumption | with_reducible refine below_drewN ?_ _ | with_reducible refine Below.drew ?_ | with_reducible refine balloc ?_ _ | (with_reducible refine Below.setCell ?_ ?_ _; rotate_left; focus (first | (simp; done) | (simp; omega) | omega)))), Lib.hid (by have := HN.out; simp at this ⊢; omega), HU2⟩
              case measure => have := HK.out; omega
            · have c2' : ((b[j]).1 == E) = false := by rw [beq_eq_false_iff_ne]; exact c2
              have HU2 := Lib.hid (HT3.out (by omega))
              clear c2
              go_wp2
              go_quiet (fail)
              go_wp2_with (at_builtin; refine wpList_append_own _ rfl _ _ 23 rfl w.heap.size 62 i0 _ 2 16 Try.underlying23 hi0 hz0 hz1 hz2 rfl (by decide) _ n _ rfl ((own_drewN hOE _).alloc _) ⟨wE.heap.size, 0, none⟩ 1 1 (encP (b[j])) rfl rfl (encP_news _ _ _) (encP_one _) (by unfold maxLen; omega) (by omega) (by simp; omega) ?_; intro v' w2 hown2 hgrow2 _)
              go_roundg (gk - 1)
              case rel => exact ⟨i, (j + 1), n + 1, (o ++ [l]) ++ [b[j]], Lib.hid (by have := HK.out; omega), by go_num, by go_num, by omega, by omega, by rw [flat_snoc]; exact hown2, own_below (balloc (below_drewN hBE _) _) ((own_drewN hOE _).alloc _) hgrow2 (Nat.le_refl _) (by simp; omega), Lib.hid (by have := HN.out; simp at this ⊢; omega), HU2⟩
              case measure => have := HK.out; omega
      · have HS := Lib.hid (stepB HU.out HA.out HB.out hje (fun h => absurd h hie))
        go_wp2
        go_quiet (fail)
        go_upto_region 10 with (fail)
        have hBE : Below w.heap.size w ((((wr.alloc (.cells #[.int .i64 0, .int .i64 0] 62)).drewN nq).setCell ⟨wr.heap.size, 0, none⟩ (.int .i64 (b[j]).1)).setCell ⟨wr.heap.size, 1, none⟩ (.int .i64 (b[j]).2)) := ((below_drewN (balloc hb _) _).setCell (p := ⟨wr.heap.size, 0, none⟩) hsz _).setCell (p := ⟨wr.heap.size, 1, none⟩) hsz _
        have hNE : Blk ((((wr.alloc (.cells #[.int .i64 0, .int .i64 0] 62)).drewN nq).setCell ⟨wr.heap.size, 0, none⟩ (.int .i64 (b[j]).1)).setCell ⟨wr.heap.size, 1, none⟩ (.int .i64 (b[j]).2)) wr.heap.size 62 #[.int .i64 (b[j]).1, .int .i64 (b[j]).2] := (((Blk.new wr 62 #[.int .i64 0, .int .i64 0]).drewN nq).put 0 (.int .i64 (b[j]).1)).put 1 (.int .i64 (b[j]).2)
        have hbW : Below wr.heap.size wr ((((wr.alloc (.cells #[.int .i64 0, .int .i64 0] 62)).drewN nq).setCell ⟨wr.heap.size, 0, none⟩ (.int .i64 (b[j]).1)).setCell ⟨wr.heap.size, 1, none⟩ (.int .i64 (b[j]).2)) := ((below_drewN (balloc (Below.refl _ _) _) _).setCell (p := ⟨wr.heap.size, 0, none⟩) (Nat.le_refl _) _).setCell (p := ⟨wr.heap.size, 1, none⟩) (Nat.le_refl _) _
        have hOE := own_keep hO hbW
        obtain ⟨wE, hwE⟩ : ∃ wE, wE = ((((wr.alloc (.cells #[.int .i64 0, .int .i64 0] 62)).drewN nq).setCell ⟨wr.heap.size, 0, none⟩ (.int .i64 (b[j]).1)).setCell ⟨wr.heap.size, 1, none⟩ (.int .i64 (b[j]).2)) := ⟨_, rfl⟩
        rw [← hwE] at hBE hNE hOE ⊢
        clear hwE hbW
        have hszE := hBE.size
        have p0 : World.cell? wE ⟨wr.heap.size, 0, none⟩ = some (.int .i64 (b[j]).1) := hNE.cell 0
        have pf0 := hNE.frozen 0
        have p1 : World.cell? wE ⟨wr.heap.size, 1, none⟩ = some (.int .i64 (b[j]).2) := hNE.cell 1
        have pf1 := hNE.frozen 1
        have pfl := hNE.lt
        by_cases hn0 : n = 0
        · subst hn0
          have ho : out = [] := List.length_eq_zero_iff.1 HN.out
          have HU2 := Lib.hid (HS.out.1 ho)
          subst ho
          go_wp2_with (at_builtin; refine wpList_append_own _ rfl _ _ 23 rfl w.heap.size 62 i0 _ 2 16 Try.underlying23 hi0 hz0 hz1 hz2 rfl (by decide) _ 0 _ rfl (hOE.alloc _) ⟨wE.heap.size, 0, none⟩ 1 1 (encP (b[j])) rfl rfl (encP_news _ _ _) (encP_one _) (by unfold maxLen; omega) (by omega) (by simp; omega) ?_; intro v' w2 hown2 hgrow2 _)
          go_roundg (gk - 1)
          case rel => exact ⟨i, (j + 1), 1, [b[j]], Lib.hid (by have := HK.out; omega), by go_num, by go_num, by omega, by omega, by simpa using hown2, own_below (hBE.alloc hszE _) (hOE.alloc _) hgrow2 (Nat.le_refl _) (by simp; omega), Lib.hid rfl, HU2⟩
          case measure => have := HK.out; omega
        · have en : ((n : Int) == 0) = false := by rw [beq_eq_false_iff_ne]; omega
          have hp : 0 < n := by omega
          obtain ⟨g, rfl, hg1, hg2⟩ := own_some hO hp
          have hne : out ≠ [] := by intro e; have := HN.out; rw [e] at this; simp at this; omega
          obtain ⟨o, l, rfl⟩ := snoc_form hne
          clear hne
          obtain ⟨HS1, HS2, HS3⟩ := HS.out.2 o l rfl
          have hrl := (Rn_split.1 HU.out.rn).2.1.head
          unfold okG at hrl
          obtain ⟨o0, o1, HO⟩ := own_last HN.out hOE
          have HOS := Lib.hid HO
          have p1 := hOE.frozenAt ((n - 1) * 2 + 1)
          have p0 := hOE.frozenAt ((n - 1) * 2)
          have HT1 := Lib.hid HS1
          have HT2 := Lib.hid HS2
          have HT3 := Lib.hid HS3
          clear HS1 HS2 HS3 HS HO
          obtain ⟨E, hE⟩ : ∃ E, E = l.1 + l.2 := ⟨_, rfl⟩
          have hwE : IntKind.i64.wrap (l.1 + l.2) = E := by rw [IntWalk.i64_in _ (by omega), hE]
          have hwF : IntKind.i64.wrap (l.2 + (b[j]).2) = l.2 + (b[j]).2 := IntWalk.i64_in _ (by omega)
          rw [← hE] at HT1 HT2 HT3
          have HE := Lib.hid hE
          clear hE
          have hne2 : ¬ g = wr.heap.size := by omega
          by_cases c1 : (b[j]).1 < E
          · go_wp2
            go_quiet (fail)
            go_wp2
            go_ret2
            exact RetLB.no (HT1.out c1) (by (repeat (first | with_reducible exact Below.refl _ _ | assumption | with_reducible refine below_drewN ?_ _ | with_reducible refine Below.drew ?_ | with_reducible refine balloc ?_ _ | (with_reducible refine Below.setCell ?_ ?_ _; rotate_left; focus (first | (simp; done) | (simp; omega) | omega)))))
          by_cases c2 : (b[j]).1 = E
          · have c2' : ((b[j]).1 == E) = true := by rw [beq_iff_eq]; exact c2
            have HU2 := Lib.hid (HT2.out c2)
            clear c2
            go_wp2
            go_quiet (fail)
            go_wp2
            go_region
            go_wp2
            go_roundg (gk - 1)
            case rel => exact ⟨i, (j + 1), n, o ++ [(l.1, l.2 + (b[j]).2)], Lib.hid (by have := HK.out; omega), by go_num, by go_num, by omega, by omega, HOS.out _, by (repeat (first | with_reducible exact Below.refl _ _ | assumption | with_reducible refine below_drewN ?_ _ | with_reducible refine Below.drew ?_ | with_reducible refine balloc ?_ _ | (with_reducible refine Below.setCell ?_ ?_ _; rotate_left; focus (first | (simp; done) | (simp; omega) | omega)))), Lib.hid (by have := HN.out; simp at this ⊢; omega), HU2⟩
            case measure => have := HK.out; omega
          · have c2' : ((b[j]).1 == E) = false := by rw [beq_eq_false_iff_ne]; exact c2
            have HU2 := Lib.hid (HT3.out (by omega))
            clear c2
            go_wp2
            go_quiet (fail)
            go_wp2_with (at_builtin; refine wpList_append_own _ rfl _ _ 23 rfl w.heap.size 62 i0 _ 2 16 Try.underlying23 hi0 hz0 hz1 hz2 rfl (by decide) _ n _ rfl ((own_drewN hOE _).alloc _) ⟨wE.heap.size, 0, none⟩ 1 1 (encP (b[j])) rfl rfl (encP_news _ _ _) (encP_one _) (by unfold maxLen; omega) (by omega) (by simp; omega) ?_; intro v' w2 hown2 hgrow2 _)
            go_roundg (gk - 1)
            case rel => exact ⟨i, (j + 1), n + 1, (o ++ [l]) ++ [b[j]], Lib.hid (by have := HK.out; omega), by go_num, by go_num, by omega, by omega, by rw [flat_snoc]; exact hown2, own_below (balloc (below_drewN hBE _) _) ((own_drewN hOE _).alloc _) hgrow2 (Nat.le_refl _) (by simp; omega), Lib.hid (by have := HN.out; simp at this ⊢; omega), HU2⟩
            case measure => have := HK.out; omega
    · by_cases hie : i < a.length
      · have ej : ((j : Int) == b.length) = true := by rw [beq_iff_eq]; omega
        obtain ⟨b1, off1, rfl, hl1, hc1, hd1⟩ := (hx.keep hb).at_ hie
        rw [getD_lt _ _ hie] at hc1 hd1
        have HS := Lib.hid (stepA HU.out HA.out HB.out hie (fun h => absurd h hje))
        have hok := HA.out.1 _ (List.getElem_mem hie)
        unfold okG at hok
        go_wp2
        go_quiet (fail)
        go_upto_region 10 with (fail)
        have hBE : Below w.heap.size w ((((wr.alloc (.cells #[.int .i64 0, .int .i64 0] 62)).drewN nq).setCell ⟨wr.heap.size, 0, none⟩ (.int .i64 (a[i]).1)).setCell ⟨wr.heap.size, 1, none⟩ (.int .i64 (a[i]).2)) := ((below_drewN (balloc hb _) _).setCell (p := ⟨wr.heap.size, 0, none⟩) hsz _).setCell (p := ⟨wr.heap.size, 1, none⟩) hsz _
        have hNE : Blk ((((wr.alloc (.cells #[.int .i64 0, .int .i64 0] 62)).drewN nq).setCell ⟨wr.heap.size, 0, none⟩ (.int .i64 (a[i]).1)).setCell ⟨wr.heap.size, 1, none⟩ (.int .i64 (a[i]).2)) wr.heap.size 62 #[.int .i64 (a[i]).1, .int .i64 (a[i]).2] := (((Blk.new wr 62 #[.int .i64 0, .int .i64 0]).drewN nq).put 0 (.int .i64 (a[i]).1)).put 1 (.int .i64 (a[i]).2)
        have hbW : Below wr.heap.size wr ((((wr.alloc (.cells #[.int .i64 0, .int .i64 0] 62)).drewN nq).setCell ⟨wr.heap.size, 0, none⟩ (.int .i64 (a[i]).1)).setCell ⟨wr.heap.size, 1, none⟩ (.int .i64 (a[i]).2)) := ((below_drewN (balloc (Below.refl _ _) _) _).setCell (p := ⟨wr.heap.size, 0, none⟩) (Nat.le_refl _) _).setCell (p := ⟨wr.heap.size, 1, none⟩) (Nat.le_refl _) _
        have hOE := own_keep hO hbW
        obtain ⟨wE, hwE⟩ : ∃ wE, wE = ((((wr.alloc (.cells #[.int .i64 0, .int .i64 0] 62)).drewN nq).setCell ⟨wr.heap.size, 0, none⟩ (.int .i64 (a[i]).1)).setCell ⟨wr.heap.size, 1, none⟩ (.int .i64 (a[i]).2)) := ⟨_, rfl⟩
        rw [← hwE] at hBE hNE hOE ⊢
        clear hwE hbW
        have hszE := hBE.size
        have p0 : World.cell? wE ⟨wr.heap.size, 0, none⟩ = some (.int .i64 (a[i]).1) := hNE.cell 0
        have pf0 := hNE.frozen 0
        have p1 : World.cell? wE ⟨wr.heap.size, 1, none⟩ = some (.int .i64 (a[i]).2) := hNE.cell 1
        have pf1 := hNE.frozen 1
        have pfl := hNE.lt
        by_cases hn0 : n = 0
        · subst hn0
          have ho : out = [] := List.length_eq_zero_iff.1 HN.out
          have HU2 := Lib.hid (HS.out.1 ho)
          subst ho
          go_wp2_with (at_builtin; refine wpList_append_own _ rfl _ _ 23 rfl w.heap.size 62 i0 _ 2 16 Try.underlying23 hi0 hz0 hz1 hz2 rfl (by decide) _ 0 _ rfl (hOE.alloc _) ⟨wE.heap.size, 0, none⟩ 1 1 (encP (a[i])) rfl rfl (encP_news _ _ _) (encP_one _) (by unfold maxLen; omega) (by omega) (by simp; omega) ?_; intro v' w2 hown2 hgrow2 _)
          go_roundg (gk - 1)
          case rel => exact ⟨(i + 1), j, 1, [a[i]], Lib.hid (by have := HK.out; omega), by go_num, by go_num, by omega, by omega, by simpa using hown2, own_below (hBE.alloc hszE _) (hOE.alloc _) hgrow2 (Nat.le_refl _) (by simp; omega), Lib.hid rfl, HU2⟩
          case measure => have := HK.out; omega
        · have en : ((n : Int) == 0) = false := by rw [beq_eq_false_iff_ne]; omega
          have hp : 0 < n := by omega
          obtain ⟨g, rfl, hg1, hg2⟩ := own_some hO hp
          have hne : out ≠ [] := by intro e; have := HN.out; rw [e] at this; simp at this; omega
          obtain ⟨o, l, rfl⟩ := snoc_form hne
          clear hne
          obtain ⟨HS1, HS2, HS3⟩ := HS.out.2 o l rfl
          have hrl := (Rn_split.1 HU.out.rn).2.1.head
          unfold okG at hrl
          obtain ⟨o0, o1, HO⟩ := own_last HN.out hOE
          have HOS := Lib.hid HO
          have p1 := hOE.frozenAt ((n - 1) * 2 + 1)
          have p0 := hOE.frozenAt ((n - 1) * 2)
          have HT1 := Lib.hid HS1
          have HT2 := Lib.hid HS2
          have HT3 := Lib.hid HS3
          clear HS1 HS2 HS3 HS HO
          obtain ⟨E, hE⟩ : ∃ E, E = l.1 + l.2 := ⟨_, rfl⟩
          have hwE : IntKind.i64.wrap (l.1 + l.2) = E := by rw [IntWalk.i64_in _ (by omega), hE]
          have hwF : IntKind.i64.wrap (l.2 + (a[i]).2) = l.2 + (a[i]).2 := IntWalk.i64_in _ (by omega)
          rw [← hE] at HT1 HT2 HT3
          have HE := Lib.hid hE
          clear hE
          have hne2 : ¬ g = wr.heap.size := by omega
          by_cases c1 : (a[i]).1 < E
          · go_wp2
            go_quiet (fail)
            go_wp2
            go_ret2
            exact RetLB.no (HT1.out c1) (by (repeat (first | with_reducible exact Below.refl _ _ | assumption | with_reducible refine below_drewN ?_ _ | with_reducible refine Below.drew ?_ | with_reducible refine balloc ?_ _ | (with_reducible refine Below.setCell ?_ ?_ _; rotate_left; focus (first | (simp; done) | (simp; omega) | omega)))))
          by_cases c2 : (a[i]).1 = E
          · have c2' : ((a[i]).1 == E) = true := by rw [beq_iff_eq]; exact c2
            have HU2 := Lib.hid (HT2.out c2)
            clear c2
            go_wp2
            go_quiet (fail)
            go_wp2
            go_region
            go_wp2
            go_roundg (gk - 1)
            case rel => exact ⟨(i + 1), j, n, o ++ [(l.1, l.2 + (a[i]).2)], Lib.hid (by have := HK.out; omega), by go_num, by go_num, by omega, by omega, HOS.out _, by (repeat (first | with_reducible exact Below.refl _ _ | assumption | with_reducible refine below_drewN ?_ _ | with_reducible refine Below.drew ?_ | with_reducible refine balloc ?_ _ | (with_reducible refine Below.setCell ?_ ?_ _; rotate_left; focus (first | (simp; done) | (simp; omega) | omega)))), Lib.hid (by have := HN.out; simp at this ⊢; omega), HU2⟩
            case measure => have := HK.out; omega
          · have c2' : ((a[i]).1 == E) = false := by rw [beq_eq_false_iff_ne]; exact c2
            have HU2 := Lib.hid (HT3.out (by omega))
            clear c2
            go_wp2
            go_quiet (fail)
            go_wp2_with (at_builtin; refine wpList_append_own _ rfl _ _ 23 rfl w.heap.size 62 i0 _ 2 16 Try.underlying23 hi0 hz0 hz1 hz2 rfl (by decide) _ n _ rfl ((own_drewN hOE _).alloc _) ⟨wE.heap.size, 0, none⟩ 1 1 (encP (a[i])) rfl rfl (encP_news _ _ _) (encP_one _) (by unfold maxLen; omega) (by omega) (by simp; omega) ?_; intro v' w2 hown2 hgrow2 _)
            go_roundg (gk - 1)
            case rel => exact ⟨(i + 1), j, n + 1, (o ++ [l]) ++ [a[i]], Lib.hid (by have := HK.out; omega), by go_num, by go_num, by omega, by omega, by rw [flat_snoc]; exact hown2, own_below (balloc (below_drewN hBE _) _) ((own_drewN hOE _).alloc _) hgrow2 (Nat.le_refl _) (by simp; omega), Lib.hid (by have := HN.out; simp at this ⊢; omega), HU2⟩
            case measure => have := HK.out; omega
      · go_wp2
        go_ret2
        exact RetLB.yes (uinv_end HU.out (by omega) (by omega)) HN.out (own_RL_at HN.out hO) (own_fresh hO) hb
end Go.Proofs.Ytjhigfhgchpjcaa
