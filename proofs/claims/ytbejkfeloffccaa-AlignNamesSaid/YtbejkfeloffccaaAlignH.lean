/-
  Contract: align.window.
-/
import Derived.Test.YtbejkfeloffccaaAlignG
namespace Go.Proofs.Ytbejkfeloffccaa
open Go.RowKit
set_option linter.unusedVariables false

/-- Blocks that are valid, in order and apart. -/
def Apart (l : List (Int × List Int)) : Prop := (∀ j (h : j < l.length), okB l[j] = true) ∧ ∀ j (h : j + 1 < l.length), endB l[j] ≤ l[j + 1].1
theorem rec_apart {l : List (Int × List Int)} (h : recErr l = 0) : Apart l := ⟨fun j hj => recErr_at h hj, fun j hj => recErr_next h hj⟩
theorem Apart.bd {l : List (Int × List Int)} (h : Apart l) (j : Nat) (hj : j < l.length) : 0 ≤ l[j].1 ∧ l[j].1 ≤ 1000000 ∧ 0 < l[j].2.length ∧ l[j].2.length ≤ 256 ∧ streamErr l[j].2 = 0 := okB_bd (h.1 j hj)
theorem Apart.lt {l : List (Int × List Int)} (h : Apart l) {i j : Nat} (hij : i < j) (hj : j < l.length) : endB (l[i]'(by omega)) ≤ l[j].1 := by
  induction j with
  | zero => omega
  | succ j ih =>
    have h1 := h.2 j hj
    rcases Nat.lt_or_ge i j with h2 | h2
    · have h3 := ih h2 (by omega)
      have h4 := h.bd j (by omega)
      unfold endB at h1 h3 ⊢
      omega
    · obtain rfl : i = j := by omega
      exact h1
theorem sampAt_left {l1 l2 : List (Int × List Int)} {t : Int} (h : ∀ b ∈ l1, ¬ (b.1 ≤ t ∧ t < endB b)) : sampAt (l1 ++ l2) t = sampAt l2 t := by
  induction l1 with
  | nil => rfl
  | cons b l ih =>
    rw [List.cons_append, sampAt, if_neg (h b (by simp))]
    exact ih (fun b hb => h b (by simp [hb]))
theorem sampAt_right {l1 l2 : List (Int × List Int)} {t : Int} (h : ∀ b ∈ l2, ¬ (b.1 ≤ t ∧ t < endB b)) : sampAt (l1 ++ l2) t = sampAt l1 t := by
  induction l1 with
  | nil =>
    rw [List.nil_append]
    exact sampAt_none (fun j hj => h _ (List.getElem_mem hj))
  | cons b l ih =>
    rw [List.cons_append, sampAt, sampAt, ih]
theorem sampAt_snoc {l : List (Int × List Int)} (h : Apart l) {k : Nat} (hk : k < l.length) (t : Int) : sampAt (l.take (k + 1)) t = if (l[k].1 ≤ t ∧ t < endB l[k]) then l[k].2.getD (t - l[k].1).toNat 0 else sampAt (l.take k) t := by
  rw [List.take_succ_eq_append_getElem hk]
  by_cases hc : (l[k].1 ≤ t ∧ t < endB l[k])
  · rw [if_pos hc, sampAt_left, sampAt, if_pos hc]
    intro b hb hcb
    obtain ⟨i, hi, rfl⟩ := List.mem_iff_getElem.1 hb
    have hik : i < k := by simp at hi; omega
    have := h.lt hik hk
    rw [List.getElem_take] at hcb
    omega
  · rw [if_neg hc, sampAt_right]
    intro b hb
    simp at hb
    subst hb
    exact hc
/-- The window when t has come to T in block k. -/
def winP (l : List (Int × List Int)) (k : Nat) (a : Int) (b : Int × List Int) (T : Int) (i : Nat) : Int := if b.1 ≤ a + i ∧ a + i < T then b.2.getD (a + i - b.1).toNat 0 else sampAt (l.take k) (a + i)
def winF (l : List (Int × List Int)) (a : Int) (i : Nat) : Int := sampAt l (a + i)
theorem winP_start {l : List (Int × List Int)} {k n : Nat} {a T : Int} {b : Int × List Int} (h : T ≤ a ∨ T ≤ b.1) : fullL (winP l k a b T) n = fullL (winF (l.take k) a) n :=
  fullL_congr (fun i hi => by unfold winP winF; rw [if_neg (by omega)])
theorem winP_step {l : List (Int × List Int)} {k n : Nat} {a T : Int} {b : Int × List Int} {j : Nat} (hj : a + j = T) (hb : b.1 ≤ T) (hn : j < n) : (fullL (winP l k a b T) n).set j (b.2.getD (T - b.1).toNat 0) = fullL (winP l k a b (T + 1)) n := by
  apply List.ext_getElem (by simp [fullL])
  intro i h1 h2
  rw [List.getElem_set, fullL_get]
  simp only [fullL_get]
  unfold winP
  by_cases e : j = i
  · subst e
    rw [if_pos rfl, if_pos (by omega), hj]
  · rw [if_neg e]
    by_cases h3 : b.1 ≤ a + i ∧ a + i < T
    · rw [if_pos h3, if_pos (by omega)]
    · rw [if_neg h3, if_neg (by omega)]
theorem winP_end {l : List (Int × List Int)} (h : Apart l) {k n : Nat} (hk : k < l.length) {a T : Int} (hT : a + n ≤ T ∨ endB l[k] ≤ T) (hT2 : T ≤ endB l[k] ∨ T ≤ a) : fullL (winP l k a l[k] T) n = fullL (winF (l.take (k + 1)) a) n :=
  fullL_congr (fun i hi => by
    unfold winP winF
    rw [sampAt_snoc h hk]
    by_cases h3 : l[k].1 ≤ a + i ∧ a + i < T
    · rw [if_pos h3, if_pos (by first | omega | (unfold endB at *; omega))]
    · rw [if_neg h3, if_neg (by first | omega | (unfold endB at *; omega))])
theorem sampAt_bd {l : List (Int × List Int)} (h : Apart l) (t : Int) : -3 ≤ sampAt l t ∧ sampAt l t ≤ 3 := by
  by_cases hex : ∃ j, ∃ hj : j < l.length, (l[j].1 ≤ t ∧ t < endB l[j])
  · obtain ⟨j, hj, hc⟩ := hex
    have e : sampAt l t = l[j].2.getD (t - l[j].1).toNat 0 := by
      refine sampAt_first hj (fun i hi hij => ?_) hc
      have := h.lt hij hj
      omega
    rw [e]
    obtain ⟨_, _, _, _, hs⟩ := h.bd j hj
    rcases Nat.lt_or_ge (t - l[j].1).toNat l[j].2.length with h1 | h1
    · rw [getD_lt _ _ h1]
      have := (streamErr_zero hs).2 _ (List.getElem_mem h1)
      unfold digitOf at this
      repeat' split at this
      all_goals omega
    · simp [List.getD_eq_getElem?_getD, List.getElem?_eq_none h1]
  · rw [sampAt_none (fun j hj hc => hex ⟨j, hj, hc⟩)]
    omega

set_option maxHeartbeats 8000000 in
theorem window_any (A : Option Addr) (c : Nat) (l : List (Int × List Int)) (a : Int) (m : Nat) (w : World) (hx : RB w A l) (hA : Apart l) (hl : l.length ≤ 64) (ha1 : -2000000 ≤ a) (ha2 : a ≤ 3000000) (hm : m ≤ 256) :
    Calls Try.prog 40 #[.slice A l.length c, .int .i64 a, .int .i64 (m : Int)] w fun e w' => ∃ g, e = .returned (.slice (some ⟨g, 0, none⟩) m m) ∧ w.heap.size ≤ g ∧ Blk w' g 3 ((fullL (winF l a) m).flatMap (encI .i64)).toArray ∧ Below w.heap.size w w' := by
  have HA := Lib.hid hA
  clear hA
  obtain ⟨i0, hi0, hz0, hz1, hz2⟩ := info_parts info_int
  have hmk := mk_row (P := Try.prog) 22 3 Try.underlying22 hi0 hz0 hz1 hz2 (encI .i64) (encI_len .i64) (by omega) 0 rfl m (by omega) (by omega)
  go_enter Try.func40, Try.ntmps40
  go_wp2
  go_loopg [9, 10, 15] l.length (fun gk _ _ i wr => ∃ k : Nat, k + gk = l.length ∧ i = .int .i64 k ∧ Blk wr w.heap.size 3 ((fullL (winF (l.take k) a) m).flatMap (encI .i64)).toArray ∧ Below w.heap.size w wr)
  case atStart =>
    refine ⟨0, by omega, rfl, ?_, balloc (Below.refl _ _) _⟩
    have e : fullL (winF (l.take 0) a) m = List.replicate m 0 := by
      apply List.ext_getElem (by simp [fullL])
      intro i h1 h2
      rw [fullL_get]
      simp [winF, sampAt]
    rw [e]
    exact Blk.new w _ _
  case round =>
    obtain ⟨k, hk, rfl, hO, hb⟩ := hrel
    have hk' : k ≤ l.length := by omega
    have HK := Lib.hid hk
    clear hk hmk
    have hsz := hb.size
    have hgO := hO.lt
    by_cases hlt : k < l.length
    · obtain ⟨b1, off1, A1, c1, rfl, hlw, hw1, hw2, hr, hcap⟩ := hx.at_ hlt
      have hc1 := (hb.cell (p := ⟨b1, _, none⟩) hlw).trans hw1
      have hc2 := (hb.cell (p := ⟨b1, _, none⟩) hlw).trans hw2
      obtain ⟨p1, p2, p3, p4, _⟩ := HA.out.bd k hlt
      have hV := Blk.new wr 47 #[.int .i64 l[k].1, .slice A1 l[k].2.length c1]
      obtain ⟨wo, rfl⟩ : ∃ wo : World, wo = wr := ⟨_, rfl⟩
      obtain ⟨gu, rfl⟩ : ∃ gu : Nat, gu = gk := ⟨_, rfl⟩
      have hb' := balloc hb (.cells #[.int .i64 l[k].1, .slice A1 l[k].2.length c1] 47)
      have hO' := hO.alloc (.cells #[.int .i64 l[k].1, .slice A1 l[k].2.length c1] 47)
      go_wp2
      all_goals
        clear hc1 hc2
        go_loopg [10] 300 (fun ga s10 wq => ∃ (T : Int) (n : Nat), n + ga = 300 ∧ s10 = .int .i64 T ∧ a + n ≤ T ∧ l[k].1 ≤ T ∧ (T ≤ endB l[k] ∨ T ≤ a) ∧ Blk wq w.heap.size 3 ((fullL (winP l k a l[k] T) m).flatMap (encI .i64)).toArray ∧ Blk wq wo.heap.size 47 #[.int .i64 l[k].1, .slice A1 l[k].2.length c1] ∧ Below w.heap.size w wq)
        case atStart => exact ⟨_, 0, by omega, rfl, by omega, by omega, by unfold endB; omega, by rw [winP_start (by omega)]; exact hO', hV, hb'⟩
        case round =>
          obtain ⟨T, n, hn, rfl, hT1, hT2, hT3, hO2, hV2, hb2⟩ := hrel
          unfold endB at hT3
          have hn' : n ≤ 300 := by omega
          have HN := Lib.hid hn
          clear hn
          have v0 : World.cell? wr ⟨wo.heap.size, 0, none⟩ = some (.int .i64 l[k].1) := hV2.cell 0
          have vf0 := hV2.frozen 0
          have v1 : World.cell? wr ⟨wo.heap.size, 1, none⟩ = some (.slice A1 l[k].2.length c1) := hV2.cell 1
          have vf1 := hV2.frozen 1
          have vfl := hV2.lt
          have hbs := hb2.size
          by_cases hin : T < a + m ∧ T < l[k].1 + l[k].2.length
          · obtain ⟨hin1, hin2⟩ := hin
            have hjn : (T - l[k].1).toNat < l[k].2.length := by omega
            have hjm : (T - a).toNat < m := by omega
            go_wp2_with fail
            refine (end_any l[k].1 A1 l[k].2.length c1 _ (by omega) (by omega) (by omega)).mono ?_
            rintro _ w2 ⟨rfl, hb3⟩
            have hO3 := hO2.keep hb3
            have hV3 := hV2.keep hb3
            have hB3 := bstep hb2 hb3
            have hr3 := hr.keep hB3
            clear v0 v1 vf0 vf1 vfl hb3
            have v0 : World.cell? w2 ⟨wo.heap.size, 0, none⟩ = some (.int .i64 l[k].1) := hV3.cell 0
            have vf0 := hV3.frozen 0
            have v1 : World.cell? w2 ⟨wo.heap.size, 1, none⟩ = some (.slice A1 l[k].2.length c1) := hV3.cell 1
            have vf1 := hV3.frozen 1
            have vfl := hV3.lt
            obtain ⟨b2, off2, rfl, hlw2, hw3⟩ := hr3.at2 hjn
            have o0 := blkI_at hO3 (j := (T - a).toNat) (by rw [fullL_len]; exact hjm)
            have of0 := hO3.frozen (T - a).toNat
            have hgl := hO3.lt
            have HS := Lib.hid (winP_step (l := l) (k := k) (n := m) (a := a) (T := T) (b := l[k]) (j := (T - a).toNat) (by omega) hT2 hjm)
            rw [getD_lt _ _ hjn] at hw3
            have hne : ¬ w.heap.size = wo.heap.size := by omega
            have hne2 : ¬ wo.heap.size = w.heap.size := by omega
            go_wp2
            all_goals
              go_roundg (gk - 1)
              case rel =>
                refine ⟨T + 1, n + 1, by have := HN.out; omega, by go_num, by omega, by omega, by unfold endB; omega, ?_, ?_, ?_⟩
                · rw [← HS.out, getD_lt _ _ hjn]
                  exact blkI_set hO3 (by rw [fullL_len]; exact hjm) _
                · exact hV3.far (p := ⟨w.heap.size, _, none⟩) hne2 _
                · exact hB3.setCell (p := ⟨w.heap.size, _, none⟩) (Nat.le_refl _) _
              case measure => have := HN.out; omega
          · go_wp2_with fail
            refine (end_any l[k].1 A1 l[k].2.length c1 _ (by omega) (by omega) (by omega)).mono ?_
            rintro _ w2 ⟨rfl, hb3⟩
            have hO3 := hO2.keep hb3
            have hB3 := bstep hb2 hb3
            rw [winP_end HA.out hlt (by unfold endB; omega) (by unfold endB; omega)] at hO3
            go_wp2
            all_goals
              go_roundg (gu - 1)
              case rel => exact ⟨k + 1, by have := HK.out; omega, by go_num, hO3, hB3⟩
              case measure => have := HK.out; omega
    · obtain rfl : k = l.length := by omega
      rw [List.take_length] at hO
      go_wp2
      go_ret
      exact ⟨_, rfl, Nat.le_refl _, hO, hb⟩
end Go.Proofs.Ytbejkfeloffccaa
