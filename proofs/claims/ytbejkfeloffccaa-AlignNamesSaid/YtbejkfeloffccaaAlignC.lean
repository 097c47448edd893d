/-
  Contracts: align.Gaps, fringeref14.Gaps, fringeref14.SameGaps.
-/
import Derived.Test.YtbejkfeloffccaaAlignB
namespace Go.Proofs.Ytbejkfeloffccaa
open Go.RowKit
set_option linter.unusedVariables false

theorem info_gap : (Try.prog.info? 69).map (fun i => (i.zero, i.size, i.bytes)) = some (some (.agg #[.int .i64 0, .int .i64 0]), 2, 16) := by kernel_rfl
theorem gapsTo_skip {xs : List Int} {k : Nat} (h : xs.getD k 0 ≠ 0) : gapsTo xs (k + 1) = gapsTo xs k := by rw [gapsTo, if_pos h]
theorem gapsTo_bump {xs : List Int} {k : Nat} (h : xs.getD k 0 = 0) (h2 : 0 < k) (h3 : xs.getD (k - 1) 0 = 0) : gapsTo xs (k + 1) = bump (gapsTo xs k) := by
  rw [gapsTo, if_neg (fun h4 => h4 h), if_pos ⟨h2, h3⟩]
theorem gapsTo_new {xs : List Int} {k : Nat} (h : xs.getD k 0 = 0) (h2 : k = 0 ∨ xs.getD (k - 1) 0 ≠ 0) : gapsTo xs (k + 1) = gapsTo xs k ++ [((k : Int), 1)] := by
  rw [gapsTo, if_neg (fun h4 => h4 h), if_neg (fun h4 => h2.elim (fun h5 => by omega) (fun h5 => h5 h4.2))]
/-- The store that lengthens the last run. -/
theorem own_bump {w : World} {base : Nat} {e : TypeId} {g cap : Nat} {l : List (Int × Int)} (hp : 0 < l.length) (h : w.ownsRow base e 2 (.slice (some ⟨g, 0, none⟩) l.length cap) l.length (l.flatMap encP)) :
    (w.setCell ⟨g, (l.length - 1) * 2 + 1, none⟩ (.int .i64 ((l.getD (l.length - 1) (0, 0)).2 + 1))).ownsRow base e 2 (.slice (some ⟨g, 0, none⟩) (bump l).length cap) (bump l).length ((bump l).flatMap encP) := by
  have h1 := (h.stored ((l.length - 1) * 2 + 1) (.int .i64 ((l.getD (l.length - 1) (0, 0)).2 + 1))).1
  have e1 := flat_set encP 2 encP_len l (l.length - 1) 1 (by omega) (by omega) (.int .i64 ((l.getD (l.length - 1) (0, 0)).2 + 1)) ((l.getD (l.length - 1) (0, 0)).1, (l.getD (l.length - 1) (0, 0)).2 + 1) (by rw [getD_lt _ _ (by omega)]; simp [encP])
  rw [e1] at h1
  have e2 : (bump l).length = l.length := by simp [bump]
  rw [e2]
  exact h1

theorem alignGaps_any (A : Option Addr) (c : Nat) (xs : List Int) (w : World) (hx : RI .i64 w A xs) (hl : xs.length ≤ 140737488355328) :
    Calls Try.prog 13 #[.slice A xs.length c] w (RetQ 69 w (gapsSpec xs)) := by
  rcases (Decidable.em (streamErr xs = 0)).symm with he | he
  · have e1 : (streamErr xs != 0) = true := by simp [he]
    have HE := Lib.hid he
    clear he
    go_enter Try.func13, Try.ntmps13
    go_wp2_with (go_at_call 37; refine (sampleCheck_any _ _ _ _ hx hl).mono ?_; rintro e w' ⟨rfl, rfl⟩)
    go_ret2
    exact RetQ.nil (gaps_err HE.out) (Below.refl _ _)
  have e1 : (streamErr xs != 0) = false := by simp [he]
  have HE := Lib.hid he
  have hl5 := (streamErr_zero he).1
  clear he
  obtain ⟨i0, hi0, hz0, hz1, hz2⟩ := info_parts info_gap
  go_enter Try.func13, Try.ntmps13
  go_wp2_with (go_at_call 37; refine (sampleCheck_any _ _ _ _ hx hl).mono ?_; rintro e w' ⟨rfl, rfl⟩)
  go_loopg [5, 6, 7, 15] xs.length (fun gk v _ _ i wr => ∃ k : Nat, k + gk = xs.length ∧ i = .int .i64 k ∧ wr.ownsRow w.heap.size 69 2 v (gapsTo xs k).length ((gapsTo xs k).flatMap encP) ∧ Below w.heap.size w wr)
  case atStart => exact ⟨0, by omega, rfl, by simpa [gapsTo] using World.ownsRow_nil _ _ _ _, Below.refl _ _⟩
  case round =>
    obtain ⟨k, hk, rfl, hO, hb⟩ := hrel
    have hk' : k ≤ xs.length := by omega
    have HK := Lib.hid hk
    clear hk
    have hsz := hb.size
    have hgl := gapsTo_len xs k
    by_cases hlt : k < xs.length
    · obtain ⟨b, off, rfl, hlw, hcw⟩ := hx.at2 hlt
      rw [getD_lt _ _ hlt] at hcw
      have hc := (hb.cell (p := ⟨b, _, none⟩) hlw).trans hcw
      by_cases hz : xs[k] = 0
      · have ez : (xs[k] != 0) = false := by simp [hz]
        have HZ := Lib.hid (show xs.getD k 0 = 0 by rw [getD_lt _ _ hlt]; exact hz)
        clear hz
        by_cases hk0 : 0 < k
        · have hlt1 : k - 1 < xs.length := by omega
          obtain ⟨b', off', e, _, hcw1⟩ := hx.at2 hlt1
          obtain ⟨rfl, rfl⟩ : b = b' ∧ off = off' := by injection e with e; injection e with e1 e2; exact ⟨e1, e2⟩
          rw [getD_lt _ _ hlt1] at hcw1
          have hc1 := (hb.cell (p := ⟨b, _, none⟩) hlw).trans hcw1
          clear e
          by_cases hz1 : xs[k - 1] = 0
          · have ez1 : (xs[k - 1] == 0) = true := by simp [hz1]
            have HZ1 := Lib.hid (show xs.getD (k - 1) 0 = 0 by rw [getD_lt _ _ hlt1]; exact hz1)
            clear hz1
            have hp := gapsTo_pos hk' ⟨hk0, HZ1.out⟩
            obtain ⟨A5, c5, rfl⟩ := own_shape hO
            obtain ⟨g, rfl, hg1, hg2⟩ := own_some hO hp
            have o1 := own_at encP_len hO (j := (gapsTo xs k).length - 1) (i := 1) (by omega) (by omega)
            have p1 := hO.frozenAt (((gapsTo xs k).length - 1) * 2 + 1)
            have hbm := own_bump hp hO
            have hmem := gapsTo_bd xs k _ (List.getElem_mem (show (gapsTo xs k).length - 1 < (gapsTo xs k).length by omega))
            rw [getD_lt _ _ (show (gapsTo xs k).length - 1 < (gapsTo xs k).length by omega)] at hbm
            simp only [encP, List.getElem?_cons_succ, List.getElem?_cons_zero] at o1
            have HB := Lib.hid hbm
            have HG := Lib.hid (gapsTo_bump HZ.out hk0 HZ1.out)
            clear hbm
            go_wp2
            go_roundg (gk - 1)
            case rel => exact ⟨k + 1, by have := HK.out; omega, by go_num, by rw [HG.out]; have h := HB.out; rw [show (bump (gapsTo xs k)).length = (gapsTo xs k).length by simp [bump]] at h ⊢; exact h, hb.setCell (p := ⟨g, ((gapsTo xs k).length - 1) * 2 + 1, none⟩) hg1 _⟩
            case measure => have := HK.out; omega
          · have ez1 : (xs[k - 1] == 0) = false := by simp [hz1]
            have HG := Lib.hid (gapsTo_new HZ.out (.inr (by rw [getD_lt _ _ hlt1]; exact hz1)))
            clear hz1
            go_wp2_with (at_builtin; refine wpList_append_own _ rfl _ _ 29 rfl w.heap.size 69 i0 _ 2 16 Try.underlying29 hi0 hz0 hz1 hz2 rfl (by decide) _ (gapsTo xs k).length _ rfl (hO.alloc _) ⟨wr.heap.size, 0, none⟩ 1 1 (encP ((k : Int), 1)) rfl rfl (encP_news _ _ _) (encP_one _) (by unfold maxLen; omega) (by omega) (by simp; omega) ?_; intro v' w2 hown2 hgrow2 _)
            go_roundg (gk - 1)
            case rel => exact ⟨k + 1, by have := HK.out; omega, by go_num, by rw [HG.out, flat_snoc, List.length_append]; exact hown2, own_below (hb.alloc hsz _) (hO.alloc _) hgrow2 (Nat.le_refl _) (by simp; omega)⟩
            case measure => have := HK.out; omega
        · have HG := Lib.hid (gapsTo_new HZ.out (.inl (by omega)))
          go_wp2_with (at_builtin; refine wpList_append_own _ rfl _ _ 29 rfl w.heap.size 69 i0 _ 2 16 Try.underlying29 hi0 hz0 hz1 hz2 rfl (by decide) _ (gapsTo xs k).length _ rfl (hO.alloc _) ⟨wr.heap.size, 0, none⟩ 1 1 (encP ((k : Int), 1)) rfl rfl (encP_news _ _ _) (encP_one _) (by unfold maxLen; omega) (by omega) (by simp; omega) ?_; intro v' w2 hown2 hgrow2 _)
          go_roundg (gk - 1)
          case rel => exact ⟨k + 1, by have := HK.out; omega, by go_num, by rw [HG.out, flat_snoc, List.length_append]; exact hown2, own_below (hb.alloc hsz _) (hO.alloc _) hgrow2 (Nat.le_refl _) (by simp; omega)⟩
          case measure => have := HK.out; omega
      · have ez : (xs[k] != 0) = true := by simp [hz]
        have HG := Lib.hid (gapsTo_skip (show xs.getD k 0 ≠ 0 by rw [getD_lt _ _ hlt]; exact hz))
        clear hz
        go_wp2
        go_roundg (gk - 1)
        case rel => exact ⟨k + 1, by have := HK.out; omega, by go_num, by rw [HG.out]; exact hO, hb⟩
        case measure => have := HK.out; omega
    · obtain rfl : k = xs.length := by omega
      go_wp2
      go_ret2
      exact RetQ.own (gaps_ok HE.out) rfl hO hb

theorem gapsRef_skip {xs : List Int} {k : Nat} (h : xs.getD k 0 ≠ 0 ∨ (0 < k ∧ xs.getD (k - 1) 0 = 0)) : gapsRef xs (k + 1) = gapsRef xs k := by rw [gapsRef, if_pos h]
theorem gapsRef_new {xs : List Int} {k : Nat} (h : xs.getD k 0 = 0) (h2 : k = 0 ∨ xs.getD (k - 1) 0 ≠ 0) : gapsRef xs (k + 1) = gapsRef xs k ++ [((k : Int), (runLen xs k : Int))] := by
  rw [gapsRef, if_neg]
  rintro (h3 | ⟨h3, h4⟩)
  · exact h3 h
  · rcases h2 with h2 | h2
    · omega
    · exact h2 h4

theorem refGaps_any (A : Option Addr) (c : Nat) (xs : List Int) (w : World) (hx : RI .i64 w A xs) (hl : xs.length ≤ 140737488355328) :
    Calls Try.prog 14 #[.slice A xs.length c] w (RetQ 69 w (gapsSpec xs)) := by
  rcases (Decidable.em (streamErr xs = 0)).symm with he | he
  · have e1 : (streamErr xs != 0) = true := by simp [he]
    have HE := Lib.hid he
    clear he
    go_enter Try.func14, Try.ntmps14
    go_wp2_with (go_at_call 35; refine (refCheck13_any _ _ _ _ hx hl).mono ?_; rintro e w' ⟨rfl, rfl⟩)
    go_ret2
    exact RetQ.nil (gaps_err HE.out) (Below.refl _ _)
  have e1 : (streamErr xs != 0) = false := by simp [he]
  have HE := Lib.hid he
  have hl5 := (streamErr_zero he).1
  clear he
  obtain ⟨i0, hi0, hz0, hz1, hz2⟩ := info_parts info_gap
  go_enter Try.func14, Try.ntmps14
  go_wp2_with (go_at_call 35; refine (refCheck13_any _ _ _ _ hx hl).mono ?_; rintro e w' ⟨rfl, rfl⟩)
  go_loopg [4, 5, 6] xs.length (fun gk v i _ wr => ∃ k : Nat, k + gk = xs.length ∧ i = .int .i64 k ∧ wr.ownsRow w.heap.size 69 2 v (gapsRef xs k).length ((gapsRef xs k).flatMap encP) ∧ Below w.heap.size w wr)
  case atStart => exact ⟨0, by omega, rfl, by simpa [gapsRef] using World.ownsRow_nil _ _ _ _, Below.refl _ _⟩
  case round =>
    obtain ⟨k, hk, rfl, hO, hb⟩ := hrel
    have hk' : k ≤ xs.length := by omega
    have HK := Lib.hid hk
    clear hk
    have hsz := hb.size
    have hgl := gapsRef_len xs k
    by_cases hlt : k < xs.length
    · obtain ⟨b, off, rfl, hlw, hcw⟩ := hx.at2 hlt
      rw [getD_lt _ _ hlt] at hcw
      have hc := (hb.cell (p := ⟨b, _, none⟩) hlw).trans hcw
      by_cases hz : xs[k] = 0
      · have ez : (xs[k] != 0) = false := by simp [hz]
        have HZ := Lib.hid (show xs.getD k 0 = 0 by rw [getD_lt _ _ hlt]; exact hz)
        clear hz
        by_cases hin : 0 < k ∧ xs.getD (k - 1) 0 = 0
        · obtain ⟨hk0, hz1⟩ := hin
          have HG := Lib.hid (gapsRef_skip (xs := xs) (.inr ⟨hk0, hz1⟩))
          have hlt1 : k - 1 < xs.length := by omega
          obtain ⟨b', off', e, _, hcw1⟩ := hx.at2 hlt1
          obtain ⟨rfl, rfl⟩ : b = b' ∧ off = off' := by injection e with e; injection e with e1 e2; exact ⟨e1, e2⟩
          rw [getD_lt _ _ hlt1] at hcw1 hz1
          have hc1 := (hb.cell (p := ⟨b, _, none⟩) hlw).trans hcw1
          have ez1 : (xs[k - 1] == 0) = true := by simp [hz1]
          clear e hz1
          go_wp2
          go_roundg (gk - 1)
          case rel => exact ⟨k + 1, by have := HK.out; omega, by go_num, by rw [HG.out]; exact hO, hb⟩
          case measure => have := HK.out; omega
        have hin' : k = 0 ∨ (0 < k ∧ xs.getD (k - 1) 0 ≠ 0) := by
          rcases Nat.eq_zero_or_pos k with h | h
          · exact .inl h
          · exact .inr ⟨h, fun h2 => hin ⟨h, h2⟩⟩
        have HG := Lib.hid (gapsRef_new HZ.out (hin'.imp id (fun h => h.2)))
        clear hin
        have hpart : (¬ 0 < k) ∨ (0 < k ∧ ∃ h1 : k - 1 < xs.length, wr.cell? ⟨b, off + (k - 1), none⟩ = some (.int .i64 xs[k - 1]) ∧ (xs[k - 1] == 0) = false) := by
          rcases hin' with h | ⟨h, h2⟩
          · exact .inl (by omega)
          · have hlt1 : k - 1 < xs.length := by omega
            obtain ⟨b', off', e, _, hcw1⟩ := hx.at2 hlt1
            obtain ⟨rfl, rfl⟩ : b = b' ∧ off = off' := by injection e with e; injection e with e1 e2; exact ⟨e1, e2⟩
            rw [getD_lt _ _ hlt1] at hcw1 h2
            exact .inr ⟨h, hlt1, (hb.cell (p := ⟨b, _, none⟩) hlw).trans hcw1, by simpa using h2⟩
        clear hin'
        obtain ⟨wo, rfl⟩ : ∃ wo : World, wo = wr := ⟨_, rfl⟩
        obtain ⟨gu, rfl⟩ : ∃ gu : Nat, gu = gk := ⟨_, rfl⟩
        rcases hpart with hp | ⟨hp, hlt1, hc1, ez1⟩
        all_goals
          go_wp2
          go_loopg [6] (xs.length - k) (fun ga s6 wq => ∃ n : Nat, n + ga = xs.length - k ∧ s6 = .int .i64 n ∧ Hid (∀ i, k ≤ i → i < k + n → xs.getD i 0 = 0) ∧ wo = wq)
          case atStart => exact ⟨0, by omega, rfl, Lib.hid (by intro i h1 h2; omega), rfl⟩
          case round =>
            obtain ⟨n, hn, rfl, hall, rfl⟩ := hrel
            have hn' : k + n ≤ xs.length := by omega
            have HN := Lib.hid hn
            clear hn
            by_cases hkn : k + n < xs.length
            · obtain ⟨b2, off2, e2, _, hdw⟩ := hx.at2 hkn
              obtain ⟨rfl, rfl⟩ : b = b2 ∧ off = off2 := by injection e2 with e2; injection e2 with e3 e4; exact ⟨e3, e4⟩
              rw [getD_lt _ _ hkn] at hdw
              have hd := (hb.cell (p := ⟨b, _, none⟩) hlw).trans hdw
              clear e2
              by_cases hz2 : xs[k + n] = 0
              · have ez2 : (xs[k + n] == 0) = true := by simp [hz2]
                have HZ2 := Lib.hid (show xs.getD (k + n) 0 = 0 by rw [getD_lt _ _ hkn]; exact hz2)
                clear hz2
                go_wp2
                go_roundg (gk - 1)
                case rel => exact ⟨n + 1, by have := HN.out; omega, by go_num, Lib.hid (by intro i h1 h2; rcases Nat.lt_or_ge i (k + n) with h3 | h3; exact hall.out i h1 h3; (obtain rfl : i = k + n := by omega); exact HZ2.out), rfl⟩
                case measure => have := HN.out; omega
              · have ez2 : (xs[k + n] == 0) = false := by simp [hz2]
                have hr := runLen_eq (xs := xs) (s := k) (K := k + n) (by omega) (by omega) hall.out (.inr (by rw [getD_lt _ _ hkn]; exact hz2))
                rw [show k + n - k = n by omega] at hr
                rw [hr] at HG
                clear hz2 hr
                go_wp2_with (at_builtin; refine wpList_append_own _ rfl _ _ 29 rfl w.heap.size 69 i0 _ 2 16 Try.underlying29 hi0 hz0 hz1 hz2 rfl (by decide) _ (gapsRef xs k).length _ rfl (hO.alloc _) ⟨wo.heap.size, 0, none⟩ 1 1 (encP ((k : Int), (n : Int))) rfl rfl (encP_news _ _ _) (encP_one _) (by unfold maxLen; omega) (by omega) (by simp; omega) ?_; intro v' w2 hown2 hgrow2 _)
                go_roundg (gu - 1)
                case rel => exact ⟨k + 1, by have := HK.out; omega, by go_num, by rw [HG.out, flat_snoc, List.length_append]; exact hown2, own_below (hb.alloc hsz _) (hO.alloc _) hgrow2 (Nat.le_refl _) (by simp; omega)⟩
                case measure => have := HK.out; omega
            · have hr := runLen_eq (xs := xs) (s := k) (K := k + n) (by omega) (by omega) hall.out (.inl (by omega))
              rw [show k + n - k = n by omega] at hr
              rw [hr] at HG
              clear hr
              go_wp2_with (at_builtin; refine wpList_append_own _ rfl _ _ 29 rfl w.heap.size 69 i0 _ 2 16 Try.underlying29 hi0 hz0 hz1 hz2 rfl (by decide) _ (gapsRef xs k).length _ rfl (hO.alloc _) ⟨wo.heap.size, 0, none⟩ 1 1 (encP ((k : Int), (n : Int))) rfl rfl (encP_news _ _ _) (encP_one _) (by unfold maxLen; omega) (by omega) (by simp; omega) ?_; intro v' w2 hown2 hgrow2 _)
              go_roundg (gu - 1)
              case rel => exact ⟨k + 1, by have := HK.out; omega, by go_num, by rw [HG.out, flat_snoc, List.length_append]; exact hown2, own_below (hb.alloc hsz _) (hO.alloc _) hgrow2 (Nat.le_refl _) (by simp; omega)⟩
              case measure => have := HK.out; omega
      · have ez : (xs[k] != 0) = true := by simp [hz]
        have HG := Lib.hid (gapsRef_skip (xs := xs) (k := k) (.inl (by rw [getD_lt _ _ hlt]; exact hz)))
        clear hz
        go_wp2
        go_roundg (gk - 1)
        case rel => exact ⟨k + 1, by have := HK.out; omega, by go_num, by rw [HG.out]; exact hO, hb⟩
        case measure => have := HK.out; omega
    · obtain rfl : k = xs.length := by omega
      go_wp2
      go_ret2
      rw [gaps_same] at hO
      exact RetQ.own (gaps_ok HE.out) rfl hO hb
end Go.Proofs.Ytbejkfeloffccaa
