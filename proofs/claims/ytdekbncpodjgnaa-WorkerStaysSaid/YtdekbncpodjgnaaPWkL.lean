/-
  Jobs of layer 19. Contracts: lag.Add of lists that fit, fringelaw19.fit, whole; plain: the lags of all blocks, added up.
  Jobs of layer 19. Contracts: fringelaw19.fit, whole; the walk of WorkerSizes.
-/
import Derived.Test.YtdekbncpodjgnaaPWkR
import Derived.Deep.RegionHeld3
import Derived.Test.YtdekbncpodjgnaaOpenJ
namespace Go.Proofs.Ytdekbncpodjgnaa
open Go.RowKit Runs Lagc Reg
set_option linter.unusedVariables false
set_option linter.unusedSimpArgs false
namespace Wk
open Lagw

/-! ### plain: prefixes of a stream -/
def preF (xs : List Int) (S b k : Nat) : Int := if k / S < b then xs.getD k 0 else 0
def preL (xs : List Int) (S b : Nat) : List Int := fullL (preF xs S b) xs.length
theorem preL_len (xs : List Int) (S b : Nat) : (preL xs S b).length = xs.length := fullL_len _ _
theorem pre_stream {xs : List Int} (h : streamErr xs = 0) (S b : Nat) : streamErr (preL xs S b) = 0 := by
  obtain ⟨h1, h2⟩ := streamErr_zero h
  refine streamErr_ok (by rw [preL_len]; exact h1) fun x hx => ?_
  unfold preL fullL at hx
  simp only [List.mem_map, List.mem_range] at hx
  obtain ⟨k, hk, rfl⟩ := hx
  unfold preF
  split
  · have : xs.getD k 0 = xs[k] := by simp [List.getD_eq_getElem?_getD, hk]
    rw [this]
    exact h2 _ (List.getElem_mem hk)
  · decide
theorem preL_all {xs : List Int} {S b : Nat} (hS : 1 ≤ S) (hb : cdiv xs.length S ≤ b) : preL xs S b = xs := by
  refine List.ext_getElem (preL_len _ _ _) fun k h1 h2 => ?_
  have e : (preL xs S b)[k] = preF xs S b k := by
    have := fullL_getD (preF xs S b) xs.length k 0 h2
    rw [List.getD_eq_getElem?_getD, List.getElem?_eq_getElem (by rw [fullL_len]; exact h2)] at this
    exact this
  rw [e]
  unfold preF
  have hk : k / S < b := by
    rcases Nat.lt_or_ge (k / S) b with h3 | h3
    · exact h3
    · exfalso
      have h4 : ¬ k / S < cdiv xs.length S := by omega
      rw [cdiv_lt hS] at h4
      have := Nat.div_mul_le_self k S
      omega
  rw [if_pos hk, getD_lt _ _ h2]
theorem pre_at {xs : List Int} {S b i : Nat} (hi : i < xs.length) : (preL xs S b).getD i 0 = preF xs S b i := fullL_getD _ _ _ _ hi
theorem own_at' {xs : List Int} {S b i : Nat} (hi : i < xs.length) : (ownL xs S b).getD i 0 = ownF xs S b i := fullL_getD _ _ _ _ hi
theorem pre_own (xs : List Int) (S b i : Nat) : (preF xs S (b + 1) i = preF xs S b i + ownF xs S b i) ∧ (nz (preF xs S (b + 1) i) = nz (preF xs S b i) + nz (ownF xs S b i)) := by
  unfold preF ownF
  by_cases h1 : i / S < b
  · rw [if_pos (show i / S < b + 1 by omega), if_pos h1, if_neg (by omega)]
    simp [nz]
  · by_cases h2 : i / S = b
    · rw [if_pos (show i / S < b + 1 by omega), if_neg h1, if_pos h2]
      simp [nz]
    · rw [if_neg (show ¬ i / S < b + 1 by omega), if_neg h1, if_neg h2]
      simp [nz]
theorem cells_pre {xs ys : List Int} {M S b k : Nat} (hk : k < 2 * M + 1) :
    (lagCells (preL xs S (b + 1)) ys M).getD k (0, 0) = (((lagCells (preL xs S b) ys M).getD k (0, 0)).1 + ((lagB xs ys M S b).getD k (0, 0)).1, ((lagCells (preL xs S b) ys M).getD k (0, 0)).2 + ((lagB xs ys M S b).getD k (0, 0)).2) := by
  unfold lagB
  rw [lagCells_at hk, lagCells_at hk, lagCells_at hk, preL_len, preL_len, ownL_len]
  have key : ∀ (f g h : Nat → Nat → Int), (∀ i k, i < xs.length → f i k = g i k + h i k) → ∀ d, pairSum f xs.length ys.length d = pairSum g xs.length ys.length d + pairSum h xs.length ys.length d := by
    intro f g h hfg d
    unfold pairSum
    rw [← sumR_add]
    refine sumR_congr fun i hi => ?_
    rw [← sumR_add]
    refine sumR_congr fun k _ => ?_
    rw [hfg i k hi]
    split <;> omega
  refine Prod.ext (key _ _ _ (fun i k hi => ?_) _) (key _ _ _ (fun i k hi => ?_) _)
  · unfold prodF
    rw [pre_at hi, pre_at hi, own_at' hi, (pre_own xs S b i).1, Int.add_mul]
  · unfold cntF
    rw [pre_at hi, pre_at hi, own_at' hi, (pre_own xs S b i).2, Int.add_mul]
theorem cells_zero (xs ys : List Int) (M S : Nat) : lagCells (preL xs S 0) ys M = List.replicate (2 * M + 1) (0, 0) := by
  refine List.ext_getElem (by rw [lagCells_len, List.length_replicate]) fun k h1 h2 => ?_
  rw [lagCells_len] at h1
  have e := lagCells_at (xs := preL xs S 0) (ys := ys) h1
  rw [getD_lt _ _ (by rw [lagCells_len]; exact h1)] at e
  rw [e, List.getElem_replicate]
  have hz : ∀ i, (preL xs S 0).getD i 0 = 0 := by
    intro i
    by_cases hi : i < xs.length
    · rw [pre_at hi]; unfold preF; rw [if_neg (Nat.not_lt_zero _)]
    · rw [List.getD_eq_getElem?_getD, List.getElem?_eq_none (by rw [preL_len]; omega)]; rfl
  have key : ∀ (f : Nat → Nat → Int), (∀ i k, f i k = 0) → ∀ n m d, pairSum f n m d = 0 := by
    intro f hf n m d
    unfold pairSum
    refine sumR_zero fun i _ => sumR_zero fun k _ => ?_
    rw [hf]; simp
  refine Prod.ext (key _ (fun i k => ?_) _ _ _) (key _ (fun i k => ?_) _ _ _)
  · unfold prodF; rw [hz]; simp
  · unfold cntF; rw [hz]; simp [nz]
/-- The sums over all blocks are the lags of the streams. -/
theorem sums_all {xs ys : List Int} {M S : Nat} (hj : Job xs ys M S) : fullL (sumsF xs ys M S (List.replicate (cdiv xs.length S) true)) (2 * M + 1) = lagCells xs ys M := by
  have key : ∀ b k, k < 2 * M + 1 → (sumR (fun b => ((lagB xs ys M S b).getD k (0, 0)).1) b, sumR (fun b => ((lagB xs ys M S b).getD k (0, 0)).2) b) = (lagCells (preL xs S b) ys M).getD k (0, 0) := by
    intro b
    induction b with
    | zero =>
      intro k hk
      rw [cells_zero, List.getD_eq_getElem?_getD, List.getElem?_replicate, if_pos hk]
      rfl
    | succ b ih =>
      intro k hk
      rw [sumR_succ, sumR_succ, cells_pre hk, ← ih k hk]
  refine List.ext_getElem (by rw [fullL_len, lagCells_len]) fun k h1 h2 => ?_
  rw [lagCells_len] at h2
  have e1 := fullL_getD (sumsF xs ys M S (List.replicate (cdiv xs.length S) true)) (2 * M + 1) k (0, 0) h2
  rw [getD_lt _ _ (by rw [fullL_len]; exact h2)] at e1
  rw [e1]
  unfold sumsF
  rw [sumD_all, sumD_all]
  have e2 := key (cdiv xs.length S) k h2
  rw [preL_all hj.s (Nat.le_refl _), getD_lt _ _ (by rw [lagCells_len]; exact h2)] at e2
  simp only [Nat.zero_add]
  exact e2

/-! ### lag.Add -/
def addP (a b : List (Int × Int)) : List (Int × Int) := fullL (fun k => ((a.getD k (0, 0)).1 + (b.getD k (0, 0)).1, (a.getD k (0, 0)).2 + (b.getD k (0, 0)).2)) a.length
theorem cells_add {xs ys : List Int} {M S b : Nat} : addP (lagCells (preL xs S b) ys M) (lagB xs ys M S b) = lagCells (preL xs S (b + 1)) ys M := by
  refine List.ext_getElem (by unfold addP; rw [fullL_len, lagCells_len, lagCells_len]) fun k h1 h2 => ?_
  rw [lagCells_len] at h2
  have e1 := fullL_getD (fun k => (((lagCells (preL xs S b) ys M).getD k (0, 0)).1 + ((lagB xs ys M S b).getD k (0, 0)).1, ((lagCells (preL xs S b) ys M).getD k (0, 0)).2 + ((lagB xs ys M S b).getD k (0, 0)).2)) (lagCells (preL xs S b) ys M).length k (0, 0) (by rw [lagCells_len]; exact h2)
  rw [getD_lt _ _ (by rw [fullL_len, lagCells_len]; exact h2)] at e1
  refine Eq.trans (show (addP (lagCells (preL xs S b) ys M) (lagB xs ys M S b))[k] = _ from e1) ?_
  have e2 := cells_pre (xs := xs) (ys := ys) (S := S) (b := b) h2
  rw [getD_lt _ _ (by rw [lagCells_len]; exact h2)] at e2
  rw [e2]
set_option maxRecDepth 20000 in
set_option maxHeartbeats 4000000 in
theorem lagAdd_ok (n : Nat) (A B : Option Addr) (c d : Nat) (a b : List (Int × Int)) (w : World) (hna : a.length = n) (hnb : b.length = n) (hx : RL w A a) (hy : RL w B b) (ha : lagErr a = 0) (hb : lagErr b = 0) (hall : ∀ k, k < n → (a.getD k (0, 0)).2 + (b.getD k (0, 0)).2 ≤ 256) :
    Calls Try.prog 57 #[.slice A n c, .slice B n d] w fun e w' => ∃ A' c', e = .returned (.tuple #[.slice A' n c', .int .i64 0]) ∧ RL w' A' (addP a b) ∧ Below w.heap.size w w' := by
  have hl5 : n ≤ 511 := by have := (lagErr_zero ha).1; omega
  have HCA := Lib.hid (fun w hx => lagCheck_any A c a w hx (by omega))
  have HCB := Lib.hid (fun w hx => lagCheck_any B d b w hx (by omega))
  rw [ha, hna] at HCA
  rw [hb, hnb] at HCB
  have hbd : ∀ k, (-2304 ≤ (a.getD k (0, 0)).1 ∧ (a.getD k (0, 0)).1 ≤ 2304) ∧ (-2304 ≤ (b.getD k (0, 0)).1 ∧ (b.getD k (0, 0)).1 ≤ 2304) ∧ (0 ≤ (a.getD k (0, 0)).2 ∧ (a.getD k (0, 0)).2 ≤ 256) ∧ (0 ≤ (b.getD k (0, 0)).2 ∧ (b.getD k (0, 0)).2 ≤ 256) := by
    have key : ∀ (l : List (Int × Int)), lagErr l = 0 → ∀ k, (-2304 ≤ (l.getD k (0, 0)).1 ∧ (l.getD k (0, 0)).1 ≤ 2304) ∧ (0 ≤ (l.getD k (0, 0)).2 ∧ (l.getD k (0, 0)).2 ≤ 256) := by
      intro l hl k
      by_cases hk : k < l.length
      · have := okLag_bd ((lagErr_zero hl).2.2 _ (getD_mem (d := (0, 0)) hk))
        omega
      · rw [List.getD_eq_getElem?_getD, List.getElem?_eq_none (by omega)]
        decide
    intro k
    have h1 := key a ha k
    have h2 := key b hb k
    exact ⟨h1.1, h2.1, h1.2, h2.2⟩
  have HBD := Lib.hid hbd
  have HAL := Lib.hid hall
  have HNA := Lib.hid hna
  have HNB := Lib.hid hnb
  obtain ⟨i0, hi0, hz0, hz1, hz2⟩ := info_parts info_lag
  have hmk := mk_row (P := Try.prog) 31 75 Try.underlying31 hi0 hz0 hz1 hz2 encP encP_len (by omega) (0, 0) rfl n (by omega) (by omega)
  have HF := Lib.hid (show addP a b = fullL (fun k => ((a.getD k (0, 0)).1 + (b.getD k (0, 0)).1, (a.getD k (0, 0)).2 + (b.getD k (0, 0)).2)) n by rw [← hna]; rfl)
  generalize hfF : (fun k => ((a.getD k (0, 0)).1 + (b.getD k (0, 0)).1, (a.getD k (0, 0)).2 + (b.getD k (0, 0)).2)) = F at *
  have HFk : Hid (∀ k, ((a.getD k (0, 0)).1 + (b.getD k (0, 0)).1, (a.getD k (0, 0)).2 + (b.getD k (0, 0)).2) = F k) := Lib.hid (fun k => by rw [← hfF])
  clear hbd hall hna hnb ha hb hfF
  go_enter Try.func57, Try.ntmps57
  go_wp2_with fail
  refine (HCA.out _ hx).mono ?_
  rintro _ w1 ⟨rfl, hb1⟩
  go_wp2_with fail
  refine (HCB.out _ (hy.keep hb1)).mono ?_
  rintro _ w2 ⟨rfl, hb2⟩
  have hB2 := bstep hb1 hb2
  replace hx := hx.keep hB2
  replace hy := hy.keep hB2
  go_wp2
  go_loopg [9, 30] n (fun gk _ i wr => ∃ k : Nat, k + gk = n ∧ i = .int .i64 k ∧ Blk wr w2.heap.size 75 ((partL F (0, 0) n k).flatMap encP).toArray ∧ Below w2.heap.size w2 wr)
  case atStart => exact ⟨0, by omega, rfl, by rw [partL_start]; exact Blk.new w2 75 _, balloc (Below.refl _ _) _⟩
  case round =>
    obtain ⟨k, hk, rfl, hO, hb⟩ := hrel
    have hk' : k ≤ n := by omega
    have HK := Lib.hid hk
    clear hk hmk
    by_cases hlt : k < n
    · obtain ⟨b1, off1, rfl, hl1, hc1, hd1⟩ := hx.at_ (i := k) (by rw [HNA.out]; exact hlt)
      obtain ⟨b2, off2, rfl, hl2, hc2, hd2⟩ := hy.at_ (i := k) (by rw [HNB.out]; exact hlt)
      have p1 := (hb.cell (p := ⟨b1, _, none⟩) hl1).trans hc1
      have p2 := (hb.cell (p := ⟨b1, _, none⟩) hl1).trans hd1
      have p3 := (hb.cell (p := ⟨b2, _, none⟩) hl2).trans hc2
      have p4 := (hb.cell (p := ⟨b2, _, none⟩) hl2).trans hd2
      have bd := HBD.out k
      have al := HAL.out k hlt
      have HS := Lib.hid (partL_set F (0, 0) n k _ (HFk.out k))
      obtain ⟨o0, o1⟩ := blkP_at hO (j := k) (by rw [partL_len]; exact hlt)
      have q0 := hO.frozen (k * 2)
      have q1 := hO.frozen (k * 2 + 1)
      have hg := hO.lt
      have hO2 := Lib.hid (blkP_set hO (j := k) (by rw [partL_len]; exact hlt) ((a.getD k (0, 0)).1 + (b.getD k (0, 0)).1, (a.getD k (0, 0)).2 + (b.getD k (0, 0)).2))
      rw [HS.out] at hO2
      clear hc1 hd1 hc2 hd2 HS HBD HAL
      generalize a.getD k (0, 0) = x at *
      generalize b.getD k (0, 0) = y at *
      have d1 : decide (256 < x.2 + y.2) = false := decide_eq_false (by omega)
      go_wp2
      go_region
      all_goals go_wp2
      go_roundg (gk - 1)
      case rel => exact ⟨k + 1, by have := HK.out; omega, by go_num, hO2.out.drew, ((hb.setCell (p := ⟨w2.heap.size, k * 2, none⟩) (Nat.le_refl _) _).setCell (p := ⟨w2.heap.size, k * 2 + 1, none⟩) (Nat.le_refl _) _).drew⟩
      case measure => have := HK.out; omega
    · rw [partL_end _ _ _ _ (by omega), ← HF.out] at hO
      go_wp2
      go_ret2
      exact ⟨_, _, rfl, blk_RL hO, bstep hB2 hb⟩
end Wk
end Go.Proofs.Ytdekbncpodjgnaa
namespace Go.Proofs.Ytdekbncpodjgnaa
open Go.RowKit Runs Lagc Reg
set_option linter.unusedVariables false
set_option linter.unusedSimpArgs false
namespace Wk
open Lagw

theorem great_far (X Y : Option Addr) (cx cy : Nat) (xs ys : List Int) (m s : Int) (w : World) (h : 300 < xs.length ∨ 300 < ys.length) :
    Calls Try.prog 9 #[.agg #[.slice X xs.length cx, .slice Y ys.length cy, .int .i64 m, .int .i64 s]] w fun e w' => e = .returned (.bool true) ∧ Below w.heap.size w w' := by
  have hk := Blk.new w 24 #[.slice X xs.length cx, .slice Y ys.length cy, .int .i64 m, .int .i64 s]
  have hbX : Below w.heap.size w (w.alloc (.cells #[.slice X xs.length cx, .slice Y ys.length cy, .int .i64 m, .int .i64 s] 24)) := balloc (Below.refl _ _) _
  have q0 : World.cell? (w.alloc (.cells #[.slice X xs.length cx, .slice Y ys.length cy, .int .i64 m, .int .i64 s] 24)) ⟨w.heap.size, 0, none⟩ = some (.slice X xs.length cx) := hk.cell 0
  have f0 := hk.frozen 0
  have q1 : World.cell? (w.alloc (.cells #[.slice X xs.length cx, .slice Y ys.length cy, .int .i64 m, .int .i64 s] 24)) ⟨w.heap.size, 1, none⟩ = some (.slice Y ys.length cy) := hk.cell 1
  have f1 := hk.frozen 1
  have q2 : World.cell? (w.alloc (.cells #[.slice X xs.length cx, .slice Y ys.length cy, .int .i64 m, .int .i64 s] 24)) ⟨w.heap.size, 2, none⟩ = some (.int .i64 m) := hk.cell 2
  have f2 := hk.frozen 2
  have q3 : World.cell? (w.alloc (.cells #[.slice X xs.length cx, .slice Y ys.length cy, .int .i64 m, .int .i64 s] 24)) ⟨w.heap.size, 3, none⟩ = some (.int .i64 s) := hk.cell 3
  have f3 := hk.frozen 3
  have fl := hk.lt
  by_cases a1 : 300 < xs.length
  · have d1 : decide (300 < xs.length) = true := decide_eq_true a1
    go_enter Try.func9, Try.ntmps9
    go_wp2_with fail
    refine (long13_any _ _ _ _).mono ?_
    rintro _ _ ⟨rfl, rfl⟩
    go_wp2
    go_ret
    exact ⟨rfl, hbX⟩
  · have d1 : decide (300 < xs.length) = false := decide_eq_false a1
    have d2 : decide (300 < ys.length) = true := decide_eq_true (by omega)
    go_enter Try.func9, Try.ntmps9
    go_wp2_with fail
    refine (long13_any _ _ _ _).mono ?_
    rintro _ _ ⟨rfl, rfl⟩
    go_wp2_with fail
    refine (long13_any _ _ _ _).mono ?_
    rintro _ _ ⟨rfl, rfl⟩
    go_wp2
    go_ret
    exact ⟨rfl, hbX⟩
theorem greatJ_far {xs ys : List Int} {m s : Int} (h : 300 < xs.length ∨ 300 < ys.length) : greatJ xs ys m s = true := by
  unfold greatJ
  exact decide_eq_true (by omega)
theorem great_all (X Y : Option Addr) (cx cy : Nat) (xs ys : List Int) (m s : Int) (w : World) (hx : RI .i64 w X xs) (hy : RI .i64 w Y ys) :
    Calls Try.prog 9 #[.agg #[.slice X xs.length cx, .slice Y ys.length cy, .int .i64 m, .int .i64 s]] w fun e w' => e = .returned (.bool (greatJ xs ys m s)) ∧ Below w.heap.size w w' := by
  by_cases h : 300 < xs.length ∨ 300 < ys.length
  · rw [greatJ_far h]
    exact great_far X Y cx cy xs ys m s w h
  · exact great_any X Y cx cy xs ys m s w hx hy (by omega) (by omega)
theorem greatJ_no {xs ys : List Int} {m s : Int} (h : greatJ xs ys m s = false) : xs.length ≤ 300 ∧ ys.length ≤ 300 ∧ (jobErr xs ys m s = 0 → cdiv xs.length s.toNat ≤ 12) := by
  unfold greatJ at h
  rw [decide_eq_false_iff_not] at h
  refine ⟨by omega, by omega, fun h2 => ?_⟩
  omega
def fitJ (xs ys : List Int) (m s : Int) : Bool := !greatJ xs ys m s && decide (jobErr xs ys m s = 0)
theorem fitJ_yes {xs ys : List Int} {m s : Int} (h : fitJ xs ys m s = true) : ∃ M S : Nat, m = M ∧ s = S ∧ Job xs ys M S ∧ cdiv xs.length S ≤ 12 := by
  unfold fitJ at h
  simp only [Bool.and_eq_true, Bool.not_eq_true', decide_eq_true_eq] at h
  obtain ⟨_, _, M, S, rfl, rfl, _⟩ := jobErr_zero h.2
  have := (greatJ_no h.1).2.2 h.2
  exact ⟨M, S, rfl, rfl, Job.of h.2, by simpa using this⟩
set_option maxRecDepth 20000 in
set_option maxHeartbeats 1000000 in
theorem fit19_any (X Y : Option Addr) (cx cy : Nat) (xs ys : List Int) (m s : Int) (w : World) (hx : RI .i64 w X xs) (hy : RI .i64 w Y ys) :
    Calls Try.prog 29 #[.agg #[.slice X xs.length cx, .slice Y ys.length cy, .int .i64 m, .int .i64 s]] w fun e w' => e = .returned (.bool (fitJ xs ys m s)) ∧ Below w.heap.size w w' := by
  have hk := Blk.new w 24 #[.slice X xs.length cx, .slice Y ys.length cy, .int .i64 m, .int .i64 s]
  have hbX : Below w.heap.size w (w.alloc (.cells #[.slice X xs.length cx, .slice Y ys.length cy, .int .i64 m, .int .i64 s] 24)) := balloc (Below.refl _ _) _
  have q0 : World.cell? (w.alloc (.cells #[.slice X xs.length cx, .slice Y ys.length cy, .int .i64 m, .int .i64 s] 24)) ⟨w.heap.size, 0, none⟩ = some (.slice X xs.length cx) := hk.cell 0
  have f0 := hk.frozen 0
  have q1 : World.cell? (w.alloc (.cells #[.slice X xs.length cx, .slice Y ys.length cy, .int .i64 m, .int .i64 s] 24)) ⟨w.heap.size, 1, none⟩ = some (.slice Y ys.length cy) := hk.cell 1
  have f1 := hk.frozen 1
  have q2 : World.cell? (w.alloc (.cells #[.slice X xs.length cx, .slice Y ys.length cy, .int .i64 m, .int .i64 s] 24)) ⟨w.heap.size, 2, none⟩ = some (.int .i64 m) := hk.cell 2
  have f2 := hk.frozen 2
  have q3 : World.cell? (w.alloc (.cells #[.slice X xs.length cx, .slice Y ys.length cy, .int .i64 m, .int .i64 s] 24)) ⟨w.heap.size, 3, none⟩ = some (.int .i64 s) := hk.cell 3
  have f3 := hk.frozen 3
  have fl := hk.lt
  have hxk := hx.keep hbX
  have hyk := hy.keep hbX
  have HG := Lib.hid (fun w hx hy => great_all X Y cx cy xs ys m s w hx hy)
  cases hg : greatJ xs ys m s
  · obtain ⟨hl1, hl2, _⟩ := greatJ_no hg
    have HK := Lib.hid (fun w hx hy => refCheckJ_any X Y cx cy xs ys m s w hx hy (by omega) (by omega))
    have HF := Lib.hid (show fitJ xs ys m s = decide (jobErr xs ys m s = 0) by unfold fitJ; rw [hg]; rfl)
    rw [hg] at HG
    clear hg
    generalize jobErr xs ys m s = J at *
    have hd : (J == 0) = decide (J = 0) := by rw [Bool.eq_iff_iff]; simp
    go_enter Try.func29, Try.ntmps29
    go_wp2_with fail
    refine (HG.out _ hxk hyk).mono ?_
    rintro _ w1 ⟨rfl, hb1⟩
    have hkW := hk.keep hb1
    clear q0 q1 q2 q3 f0 f1 f2 f3 fl
    have q0 : World.cell? w1 ⟨w.heap.size, 0, none⟩ = some (.slice X xs.length cx) := hkW.cell 0
    have f0 := hkW.frozen 0
    have q1 : World.cell? w1 ⟨w.heap.size, 1, none⟩ = some (.slice Y ys.length cy) := hkW.cell 1
    have f1 := hkW.frozen 1
    have q2 : World.cell? w1 ⟨w.heap.size, 2, none⟩ = some (.int .i64 m) := hkW.cell 2
    have f2 := hkW.frozen 2
    have q3 : World.cell? w1 ⟨w.heap.size, 3, none⟩ = some (.int .i64 s) := hkW.cell 3
    have f3 := hkW.frozen 3
    have fl := hkW.lt
    go_wp2_with fail
    refine (HK.out _ (hxk.keep hb1) (hyk.keep hb1)).mono ?_
    rintro _ w2 ⟨rfl, hb2⟩
    go_wp2
    go_ret
    exact ⟨ret_bool (by first | rw [HF.out] | (rw [HF.out]; exact hd)), bstep (bstep hbX hb1) hb2⟩
  · have HF := Lib.hid (show fitJ xs ys m s = false by unfold fitJ; rw [hg]; rfl)
    rw [hg] at HG
    clear hg
    go_enter Try.func29, Try.ntmps29
    go_wp2_with fail
    refine (HG.out _ hxk hyk).mono ?_
    rintro _ w1 ⟨rfl, hb1⟩
    go_wp2
    go_ret
    exact ⟨ret_bool HF.out.symm, bstep hbX hb1⟩
set_option maxRecDepth 20000 in
set_option maxHeartbeats 2000000 in
theorem whole_any {xs ys : List Int} {M S : Nat} (hj : Job xs ys M S) (h12 : cdiv xs.length S ≤ 12) (X Y : Option Addr) (cx cy : Nat) (w : World) (hx : RI .i64 w X xs) (hy : RI .i64 w Y ys) (hcx : xs.length ≤ cx) :
    Calls Try.prog 36 #[.agg #[.slice X xs.length cx, .slice Y ys.length cy, .int .i64 (M : Int), .int .i64 (S : Int)]] w fun e w' => ∃ A c, e = .returned (.tuple #[.slice A (2 * M + 1) c, .bool true]) ∧ RL w' A (lagCells xs ys M) ∧ Below w.heap.size w w' := by
  obtain ⟨m, hm⟩ : ∃ m : Int, m = M := ⟨_, rfl⟩
  obtain ⟨s, hs⟩ : ∃ s : Int, s = S := ⟨_, rfl⟩
  have he : jobErr xs ys M S = 0 := jobErr_ok hj.x hj.y (by rw [Int.toNat_natCast]; have := hj.m; have := hj.s; have := hj.s2; have := hj.c; omega)
  have hM := hj.m
  have hlx := hj.lx
  have hly := (streamErr_zero hj.y).1
  have hC := hj.c
  have HB := Lib.hid (fun w hx hy => wkBlocks_any X Y cx cy xs ys M S w hx hy (by omega) (by omega))
  rw [show blocksS xs ys M S = (((cdiv xs.length S : Nat) : Int), 0) by unfold blocksS; rw [if_neg (by simp [he])]; simp] at HB
  have HP : Hid (∀ k, k < cdiv xs.length S → ∀ w, RI .i64 w X xs → RI .i64 w Y ys → Calls Try.prog 12 #[.agg #[.slice X xs.length cx, .slice Y ys.length cy, .int .i64 (M : Int), .int .i64 (S : Int)], .int .i64 (k : Int)] w fun e w' => ∃ A' c', e = .returned (.tuple #[.slice A' (2 * M + 1) c', .int .i64 0]) ∧ RL w' A' (lagB xs ys M S k) ∧ Below w.heap.size w w') := Lib.hid (fun k hk w hx hy => by
    have h := wkPart_any X Y cx cy xs ys M S k w hx hy hcx (by omega) (by omega)
    rw [partS_ok he hk] at h
    refine h.mono ?_
    rintro e w' ⟨A', c', rfl, ho, hb⟩
    refine ⟨A', c', ?_, own_RL ho, hb⟩
    simp only [lagCells_len])
  have HA := Lib.hid (fun k (hk : k < cdiv xs.length S) A B c d w hx hy => lagAdd_ok (2 * M + 1) A B c d (lagCells (preL xs S k) ys M) (lagB xs ys M S k) w (lagCells_len _ _ _) (lagB_len _ _ _ _ _) hx hy (lagErr_cells (pre_stream hj.x S k) hj.y hj.m) (lagB_err hj k) (fun j hj2 => by
    have h1 := cells_pre (xs := xs) (ys := ys) (S := S) (b := k) hj2
    have h2 := okLag_bd ((lagErr_zero (lagErr_cells (pre_stream hj.x S (k + 1)) hj.y hj.m)).2.2 _ (getD_mem (d := (0, 0)) (show j < (lagCells (preL xs S (k + 1)) ys M).length by rw [lagCells_len]; exact hj2)))
    rw [h1] at h2
    simp only at h2
    omega))
  have HZ := Lib.hid (cells_zero xs ys M S)
  have HN : Hid (∀ k, addP (lagCells (preL xs S k) ys M) (lagB xs ys M S k) = lagCells (preL xs S (k + 1)) ys M) := Lib.hid (fun k => cells_add)
  have HE : Hid (lagCells (preL xs S (cdiv xs.length S)) ys M = lagCells xs ys M) := Lib.hid (by rw [preL_all hj.s (Nat.le_refl _)])
  generalize hLB : lagB xs ys M S = LB at *
  generalize hPC : (fun k => lagCells (preL xs S k) ys M) = PC at *
  have hPk : ∀ k, lagCells (preL xs S k) ys M = PC k := fun k => by rw [← hPC]
  simp only [hPk] at HA HZ HN HE
  generalize lagCells xs ys M = L at *
  generalize cdiv xs.length S = C at *
  obtain ⟨i0, hi0, hz0, hz1, hz2⟩ := info_parts info_lag
  have hmk := mk_row (P := Try.prog) 31 75 Try.underlying31 hi0 hz0 hz1 hz2 encP encP_len (by omega) (0, 0) rfl (2 * M + 1) (by omega) (by omega)
  rw [show ((2 * M + 1 : Nat) : Int) = 2 * (M : Int) + 1 by omega] at hmk
  have vf1 : IntKind.i64.wrap (2 * (M : Int)) = 2 * (M : Int) := IntWalk.i64_in _ (by omega)
  have vf2 : IntKind.i64.wrap (2 * (M : Int) + 1) = 2 * (M : Int) + 1 := IntWalk.i64_in _ (by omega)
  clear hj he hLB hPC hPk
  clear hm hs
  have hk := Blk.new w 24 #[.slice X xs.length cx, .slice Y ys.length cy, .int .i64 (M : Int), .int .i64 (S : Int)]
  have hbX : Below w.heap.size w (w.alloc (.cells #[.slice X xs.length cx, .slice Y ys.length cy, .int .i64 (M : Int), .int .i64 (S : Int)] 24)) := balloc (Below.refl _ _) _
  have q0 : World.cell? (w.alloc (.cells #[.slice X xs.length cx, .slice Y ys.length cy, .int .i64 (M : Int), .int .i64 (S : Int)] 24)) ⟨w.heap.size, 0, none⟩ = some (.slice X xs.length cx) := hk.cell 0
  have f0 := hk.frozen 0
  have q1 : World.cell? (w.alloc (.cells #[.slice X xs.length cx, .slice Y ys.length cy, .int .i64 (M : Int), .int .i64 (S : Int)] 24)) ⟨w.heap.size, 1, none⟩ = some (.slice Y ys.length cy) := hk.cell 1
  have f1 := hk.frozen 1
  have q2 : World.cell? (w.alloc (.cells #[.slice X xs.length cx, .slice Y ys.length cy, .int .i64 (M : Int), .int .i64 (S : Int)] 24)) ⟨w.heap.size, 2, none⟩ = some (.int .i64 (M : Int)) := hk.cell 2
  have f2 := hk.frozen 2
  have q3 : World.cell? (w.alloc (.cells #[.slice X xs.length cx, .slice Y ys.length cy, .int .i64 (M : Int), .int .i64 (S : Int)] 24)) ⟨w.heap.size, 3, none⟩ = some (.int .i64 (S : Int)) := hk.cell 3
  have f3 := hk.frozen 3
  have fl := hk.lt
  have hxk := hx.keep hbX
  have hyk := hy.keep hbX
  go_enter Try.func36, Try.ntmps36
  go_wp2_with fail
  refine (HB.out _ hxk hyk).mono ?_
  rintro _ w1 ⟨rfl, hb1⟩
  have hB1 := bstep hbX hb1
  clear q0 q1 q2 q3 f0 f1 f2 f3 fl
  replace hk := hk.keep hb1
  replace hxk := hxk.keep hb1
  replace hyk := hyk.keep hb1
  have q0 : World.cell? w1 ⟨w.heap.size, 0, none⟩ = some (.slice X xs.length cx) := hk.cell 0
  have f0 := hk.frozen 0
  have q1 : World.cell? w1 ⟨w.heap.size, 1, none⟩ = some (.slice Y ys.length cy) := hk.cell 1
  have f1 := hk.frozen 1
  have q2 : World.cell? w1 ⟨w.heap.size, 2, none⟩ = some (.int .i64 (M : Int)) := hk.cell 2
  have f2 := hk.frozen 2
  have q3 : World.cell? w1 ⟨w.heap.size, 3, none⟩ = some (.int .i64 (S : Int)) := hk.cell 3
  have f3 := hk.frozen 3
  have fl := hk.lt
  go_wp2
  go_loopg [6, 7] C (fun gk v i wr => ∃ (k : Nat) (A : Option Addr) (c : Nat), k + gk = C ∧ v = .slice A (2 * M + 1) c ∧ i = .int .i64 k ∧ RL wr A (PC k) ∧ Below w1.heap.size w1 wr)
  case atStart => exact ⟨0, _, _, by omega, rfl, rfl, by rw [HZ.out]; exact blk_RL (Blk.new _ _ _), balloc (Below.refl _ _) _⟩
  case round =>
    obtain ⟨k, A, c, hk9, rfl, rfl, hO, hb⟩ := hrel
    have hk' : k ≤ C := by omega
    have HK := Lib.hid hk9
    clear hk9 hmk
    have hkr := hk.keep hb
    have hxr := hxk.keep hb
    have hyr := hyk.keep hb
    clear q0 q1 q2 q3 f0 f1 f2 f3 fl
    have q0 : World.cell? wr ⟨w.heap.size, 0, none⟩ = some (.slice X xs.length cx) := hkr.cell 0
    have f0 := hkr.frozen 0
    have q1 : World.cell? wr ⟨w.heap.size, 1, none⟩ = some (.slice Y ys.length cy) := hkr.cell 1
    have f1 := hkr.frozen 1
    have q2 : World.cell? wr ⟨w.heap.size, 2, none⟩ = some (.int .i64 (M : Int)) := hkr.cell 2
    have f2 := hkr.frozen 2
    have q3 : World.cell? wr ⟨w.heap.size, 3, none⟩ = some (.int .i64 (S : Int)) := hkr.cell 3
    have f3 := hkr.frozen 3
    have fl := hkr.lt
    by_cases hlt : k < C
    · have HPk := Lib.hid (HP.out k hlt)
      have HAk := Lib.hid (HA.out k hlt)
      have HNk := Lib.hid (HN.out k)
      clear HP HA HN
      go_wp2_with fail
      refine (HPk.out _ hxr hyr).mono ?_
      rintro _ w3 ⟨A3, c3, rfl, r3, hb3⟩
      go_wp2_with fail
      refine (HAk.out _ _ _ _ _ (hO.keep hb3) r3).mono ?_
      rintro _ w4 ⟨A4, c4, rfl, r4, hb4⟩
      rw [HNk.out] at r4
      go_wp2
      go_roundg (gk - 1)
      case rel => exact ⟨k + 1, A4, c4, by have := HK.out; omega, by rfl, by go_num, r4, bstep (bstep hb hb3) hb4⟩
      case measure => have := HK.out; omega
    · obtain rfl : k = C := by omega
      rw [HE.out] at hO
      go_wp2
      go_ret2
      exact ⟨A, c, rfl, hO, bstep hB1 hb⟩
set_option maxRecDepth 20000 in
set_option maxHeartbeats 2000000 in
theorem workerSizes_walk (X Y : Option Addr) (cx cy : Nat) (xs ys : List Int) (m s : Int) (z : Int) (w : World) (hj : InJ w X Y cx cy xs ys m s) (hz : -9223372036854775808 ≤ z ∧ z ≤ 9223372036854775807) :
    Calls Try.prog 8 #[.agg #[.slice X xs.length cx, .slice Y ys.length cy, .int .i64 m, .int .i64 s], .int .i64 z] w fun e w' => e = .returned (.bool true) ∧ Below w.heap.size w w' := by
  have hx := hj.x
  have hy := hj.y
  have hcx := hj.cx
  have HF1 := Lib.hid (fun w hx hy => fit19_any X Y cx cy xs ys m s w hx hy)
  have HF2 := Lib.hid (fun w hx hy => fit19_any X Y cx cy xs ys m z w hx hy)
  clear hj hz
  cases h1 : fitJ xs ys m s
  · rw [h1] at HF1
    clear h1
    have hk := Blk.new w 24 #[.slice X xs.length cx, .slice Y ys.length cy, .int .i64 m, .int .i64 s]
    have hbX : Below w.heap.size w (w.alloc (.cells #[.slice X xs.length cx, .slice Y ys.length cy, .int .i64 m, .int .i64 s] 24)) := balloc (Below.refl _ _) _
    have q0 : World.cell? (w.alloc (.cells #[.slice X xs.length cx, .slice Y ys.length cy, .int .i64 m, .int .i64 s] 24)) ⟨w.heap.size, 0, none⟩ = some (.slice X xs.length cx) := hk.cell 0
    have f0 := hk.frozen 0
    have q1 : World.cell? (w.alloc (.cells #[.slice X xs.length cx, .slice Y ys.length cy, .int .i64 m, .int .i64 s] 24)) ⟨w.heap.size, 1, none⟩ = some (.slice Y ys.length cy) := hk.cell 1
    have f1 := hk.frozen 1
    have q2 : World.cell? (w.alloc (.cells #[.slice X xs.length cx, .slice Y ys.length cy, .int .i64 m, .int .i64 s] 24)) ⟨w.heap.size, 2, none⟩ = some (.int .i64 m) := hk.cell 2
    have f2 := hk.frozen 2
    have q3 : World.cell? (w.alloc (.cells #[.slice X xs.length cx, .slice Y ys.length cy, .int .i64 m, .int .i64 s] 24)) ⟨w.heap.size, 3, none⟩ = some (.int .i64 s) := hk.cell 3
    have f3 := hk.frozen 3
    have fl := hk.lt
    have hxk := hx.keep hbX
    have hyk := hy.keep hbX
    go_enter Try.func8, Try.ntmps8
    go_wp2_with fail
    refine (alive19 _).mono ?_
    rintro _ w1 ⟨rfl, hb1⟩
    have hB1 := bstep hbX hb1
    clear q0 q1 q2 q3 f0 f1 f2 f3 fl
    replace hk := hk.keep hb1
    replace hxk := hxk.keep hb1
    replace hyk := hyk.keep hb1
    have q0 : World.cell? w1 ⟨w.heap.size, 0, none⟩ = some (.slice X xs.length cx) := hk.cell 0
    have f0 := hk.frozen 0
    have q1 : World.cell? w1 ⟨w.heap.size, 1, none⟩ = some (.slice Y ys.length cy) := hk.cell 1
    have f1 := hk.frozen 1
    have q2 : World.cell? w1 ⟨w.heap.size, 2, none⟩ = some (.int .i64 m) := hk.cell 2
    have f2 := hk.frozen 2
    have q3 : World.cell? w1 ⟨w.heap.size, 3, none⟩ = some (.int .i64 s) := hk.cell 3
    have f3 := hk.frozen 3
    have fl := hk.lt
    go_wp2_with fail
    obtain ⟨w2, hw2⟩ : ∃ w2, w2 = w1.alloc (.cells #[.slice X xs.length cx, .slice Y ys.length cy, .int .i64 m, .int .i64 z] 24) := ⟨_, rfl⟩
    have hz2 : Blk w2 w1.heap.size 24 #[.slice X xs.length cx, .slice Y ys.length cy, .int .i64 m, .int .i64 z] := by rw [hw2]; exact Blk.new _ _ _
    have hb2 : Below w1.heap.size w1 w2 := by rw [hw2]; exact balloc (Below.refl _ _) _
    rw [← hw2]
    clear hw2
    have hB2 := bstep hB1 hb2
    replace hk := hk.keep hb2
    replace hxk := hxk.keep hb2
    replace hyk := hyk.keep hb2
    clear q0 q1 q2 q3 f0 f1 f2 f3 fl
    refine (HF1.out _ hxk hyk).mono ?_
    rintro _ w3 ⟨rfl, hb3⟩
    have hB3 := bstep hB2 hb3
    replace hk := hk.keep hb3
    replace hz2 := hz2.keep hb3
    replace hxk := hxk.keep hb3
    replace hyk := hyk.keep hb3
    go_wp2
    go_ret
    exact ⟨rfl, hB3⟩
  rw [h1] at HF1
  cases h2 : fitJ xs ys m z
  · rw [h2] at HF2
    clear h1 h2
    have hk := Blk.new w 24 #[.slice X xs.length cx, .slice Y ys.length cy, .int .i64 m, .int .i64 s]
    have hbX : Below w.heap.size w (w.alloc (.cells #[.slice X xs.length cx, .slice Y ys.length cy, .int .i64 m, .int .i64 s] 24)) := balloc (Below.refl _ _) _
    have q0 : World.cell? (w.alloc (.cells #[.slice X xs.length cx, .slice Y ys.length cy, .int .i64 m, .int .i64 s] 24)) ⟨w.heap.size, 0, none⟩ = some (.slice X xs.length cx) := hk.cell 0
    have f0 := hk.frozen 0
    have q1 : World.cell? (w.alloc (.cells #[.slice X xs.length cx, .slice Y ys.length cy, .int .i64 m, .int .i64 s] 24)) ⟨w.heap.size, 1, none⟩ = some (.slice Y ys.length cy) := hk.cell 1
    have f1 := hk.frozen 1
    have q2 : World.cell? (w.alloc (.cells #[.slice X xs.length cx, .slice Y ys.length cy, .int .i64 m, .int .i64 s] 24)) ⟨w.heap.size, 2, none⟩ = some (.int .i64 m) := hk.cell 2
    have f2 := hk.frozen 2
    have q3 : World.cell? (w.alloc (.cells #[.slice X xs.length cx, .slice Y ys.length cy, .int .i64 m, .int .i64 s] 24)) ⟨w.heap.size, 3, none⟩ = some (.int .i64 s) := hk.cell 3
    have f3 := hk.frozen 3
    have fl := hk.lt
    have hxk := hx.keep hbX
    have hyk := hy.keep hbX
    go_enter Try.func8, Try.ntmps8
    go_wp2_with fail
    refine (alive19 _).mono ?_
    rintro _ w1 ⟨rfl, hb1⟩
    have hB1 := bstep hbX hb1
    clear q0 q1 q2 q3 f0 f1 f2 f3 fl
    replace hk := hk.keep hb1
    replace hxk := hxk.keep hb1
    replace hyk := hyk.keep hb1
    have q0 : World.cell? w1 ⟨w.heap.size, 0, none⟩ = some (.slice X xs.length cx) := hk.cell 0
    have f0 := hk.frozen 0
    have q1 : World.cell? w1 ⟨w.heap.size, 1, none⟩ = some (.slice Y ys.length cy) := hk.cell 1
    have f1 := hk.frozen 1
    have q2 : World.cell? w1 ⟨w.heap.size, 2, none⟩ = some (.int .i64 m) := hk.cell 2
    have f2 := hk.frozen 2
    have q3 : World.cell? w1 ⟨w.heap.size, 3, none⟩ = some (.int .i64 s) := hk.cell 3
    have f3 := hk.frozen 3
    have fl := hk.lt
    go_wp2_with fail
    obtain ⟨w2, hw2⟩ : ∃ w2, w2 = w1.alloc (.cells #[.slice X xs.length cx, .slice Y ys.length cy, .int .i64 m, .int .i64 z] 24) := ⟨_, rfl⟩
    have hz2 : Blk w2 w1.heap.size 24 #[.slice X xs.length cx, .slice Y ys.length cy, .int .i64 m, .int .i64 z] := by rw [hw2]; exact Blk.new _ _ _
    have hb2 : Below w1.heap.size w1 w2 := by rw [hw2]; exact balloc (Below.refl _ _) _
    rw [← hw2]
    clear hw2
    have hB2 := bstep hB1 hb2
    replace hk := hk.keep hb2
    replace hxk := hxk.keep hb2
    replace hyk := hyk.keep hb2
    clear q0 q1 q2 q3 f0 f1 f2 f3 fl
    refine (HF1.out _ hxk hyk).mono ?_
    rintro _ w3 ⟨rfl, hb3⟩
    have hB3 := bstep hB2 hb3
    replace hk := hk.keep hb3
    replace hz2 := hz2.keep hb3
    replace hxk := hxk.keep hb3
    replace hyk := hyk.keep hb3
    have p0 : World.cell? w3 ⟨w1.heap.size, 0, none⟩ = some (.slice X xs.length cx) := hz2.cell 0
    have g0 := hz2.frozen 0
    have p1 : World.cell? w3 ⟨w1.heap.size, 1, none⟩ = some (.slice Y ys.length cy) := hz2.cell 1
    have g1 := hz2.frozen 1
    have p2 : World.cell? w3 ⟨w1.heap.size, 2, none⟩ = some (.int .i64 m) := hz2.cell 2
    have g2 := hz2.frozen 2
    have p3 : World.cell? w3 ⟨w1.heap.size, 3, none⟩ = some (.int .i64 z) := hz2.cell 3
    have g3 := hz2.frozen 3
    have gl := hz2.lt
    go_wp2_with fail
    refine (HF2.out _ hxk hyk).mono ?_
    rintro _ w4 ⟨rfl, hb4⟩
    go_wp2
    go_ret
    exact ⟨rfl, bstep hB3 hb4⟩
  rw [h2] at HF2
  obtain ⟨M, S, rfl, rfl, hJ1, h12⟩ := fitJ_yes h1
  obtain ⟨M', Z, e1, rfl, hJ2, h12'⟩ := fitJ_yes h2
  obtain rfl : M = M' := by omega
  have HW1 := Lib.hid (fun w hx hy => whole_any hJ1 h12 X Y cx cy w hx hy hcx)
  have HW2 := Lib.hid (fun w hx hy => whole_any hJ2 h12' X Y cx cy w hx hy hcx)
  have hM := hJ1.m
  have HQ := Lib.hid (fun A B c d w hx hy => Lagc.same16_any A B c d (lagCells xs ys M) (lagCells xs ys M) w hx hy (by rw [lagCells_len]; omega) (by rw [lagCells_len]; omega))
  rw [decide_eq_true rfl, lagCells_len] at HQ
  generalize lagCells xs ys M = L at *
  clear h1 h2 hJ1 hJ2 h12 h12' e1
  have hk := Blk.new w 24 #[.slice X xs.length cx, .slice Y ys.length cy, .int .i64 (M : Int), .int .i64 (S : Int)]
  have hbX : Below w.heap.size w (w.alloc (.cells #[.slice X xs.length cx, .slice Y ys.length cy, .int .i64 (M : Int), .int .i64 (S : Int)] 24)) := balloc (Below.refl _ _) _
  have q0 : World.cell? (w.alloc (.cells #[.slice X xs.length cx, .slice Y ys.length cy, .int .i64 (M : Int), .int .i64 (S : Int)] 24)) ⟨w.heap.size, 0, none⟩ = some (.slice X xs.length cx) := hk.cell 0
  have f0 := hk.frozen 0
  have q1 : World.cell? (w.alloc (.cells #[.slice X xs.length cx, .slice Y ys.length cy, .int .i64 (M : Int), .int .i64 (S : Int)] 24)) ⟨w.heap.size, 1, none⟩ = some (.slice Y ys.length cy) := hk.cell 1
  have f1 := hk.frozen 1
  have q2 : World.cell? (w.alloc (.cells #[.slice X xs.length cx, .slice Y ys.length cy, .int .i64 (M : Int), .int .i64 (S : Int)] 24)) ⟨w.heap.size, 2, none⟩ = some (.int .i64 (M : Int)) := hk.cell 2
  have f2 := hk.frozen 2
  have q3 : World.cell? (w.alloc (.cells #[.slice X xs.length cx, .slice Y ys.length cy, .int .i64 (M : Int), .int .i64 (S : Int)] 24)) ⟨w.heap.size, 3, none⟩ = some (.int .i64 (S : Int)) := hk.cell 3
  have f3 := hk.frozen 3
  have fl := hk.lt
  have hxk := hx.keep hbX
  have hyk := hy.keep hbX
  go_enter Try.func8, Try.ntmps8
  go_wp2_with fail
  refine (alive19 _).mono ?_
  rintro _ w1 ⟨rfl, hb1⟩
  have hB1 := bstep hbX hb1
  clear q0 q1 q2 q3 f0 f1 f2 f3 fl
  replace hk := hk.keep hb1
  replace hxk := hxk.keep hb1
  replace hyk := hyk.keep hb1
  have q0 : World.cell? w1 ⟨w.heap.size, 0, none⟩ = some (.slice X xs.length cx) := hk.cell 0
  have f0 := hk.frozen 0
  have q1 : World.cell? w1 ⟨w.heap.size, 1, none⟩ = some (.slice Y ys.length cy) := hk.cell 1
  have f1 := hk.frozen 1
  have q2 : World.cell? w1 ⟨w.heap.size, 2, none⟩ = some (.int .i64 (M : Int)) := hk.cell 2
  have f2 := hk.frozen 2
  have q3 : World.cell? w1 ⟨w.heap.size, 3, none⟩ = some (.int .i64 (S : Int)) := hk.cell 3
  have f3 := hk.frozen 3
  have fl := hk.lt
  go_wp2_with fail
  obtain ⟨w2, hw2⟩ : ∃ w2, w2 = w1.alloc (.cells #[.slice X xs.length cx, .slice Y ys.length cy, .int .i64 (M : Int), .int .i64 (Z : Int)] 24) := ⟨_, rfl⟩
  have hz2 : Blk w2 w1.heap.size 24 #[.slice X xs.length cx, .slice Y ys.length cy, .int .i64 (M : Int), .int .i64 (Z : Int)] := by rw [hw2]; exact Blk.new _ _ _
  have hb2 : Below w1.heap.size w1 w2 := by rw [hw2]; exact balloc (Below.refl _ _) _
  rw [← hw2]
  clear hw2
  have hB2 := bstep hB1 hb2
  replace hk := hk.keep hb2
  replace hxk := hxk.keep hb2
  replace hyk := hyk.keep hb2
  clear q0 q1 q2 q3 f0 f1 f2 f3 fl
  refine (HF1.out _ hxk hyk).mono ?_
  rintro _ w3 ⟨rfl, hb3⟩
  have hB3 := bstep hB2 hb3
  replace hk := hk.keep hb3
  replace hz2 := hz2.keep hb3
  replace hxk := hxk.keep hb3
  replace hyk := hyk.keep hb3
  have p0 : World.cell? w3 ⟨w1.heap.size, 0, none⟩ = some (.slice X xs.length cx) := hz2.cell 0
  have g0 := hz2.frozen 0
  have p1 : World.cell? w3 ⟨w1.heap.size, 1, none⟩ = some (.slice Y ys.length cy) := hz2.cell 1
  have g1 := hz2.frozen 1
  have p2 : World.cell? w3 ⟨w1.heap.size, 2, none⟩ = some (.int .i64 (M : Int)) := hz2.cell 2
  have g2 := hz2.frozen 2
  have p3 : World.cell? w3 ⟨w1.heap.size, 3, none⟩ = some (.int .i64 (Z : Int)) := hz2.cell 3
  have g3 := hz2.frozen 3
  have gl := hz2.lt
  go_wp2_with fail
  refine (HF2.out _ hxk hyk).mono ?_
  rintro _ w4 ⟨rfl, hb4⟩
  clear p0 p1 p2 p3 g0 g1 g2 g3 gl
  have hB4 := bstep hB3 hb4
  replace hk := hk.keep hb4
  replace hz2 := hz2.keep hb4
  replace hxk := hxk.keep hb4
  replace hyk := hyk.keep hb4
  have q0 : World.cell? w4 ⟨w.heap.size, 0, none⟩ = some (.slice X xs.length cx) := hk.cell 0
  have f0 := hk.frozen 0
  have q1 : World.cell? w4 ⟨w.heap.size, 1, none⟩ = some (.slice Y ys.length cy) := hk.cell 1
  have f1 := hk.frozen 1
  have q2 : World.cell? w4 ⟨w.heap.size, 2, none⟩ = some (.int .i64 (M : Int)) := hk.cell 2
  have f2 := hk.frozen 2
  have q3 : World.cell? w4 ⟨w.heap.size, 3, none⟩ = some (.int .i64 (S : Int)) := hk.cell 3
  have f3 := hk.frozen 3
  have fl := hk.lt
  go_wp2_with fail
  refine (HW1.out _ hxk hyk).mono ?_
  rintro _ w5 ⟨A5, c5, rfl, r5, hb5⟩
  clear q0 q1 q2 q3 f0 f1 f2 f3 fl
  have hB5 := bstep hB4 hb5
  replace hz2 := hz2.keep hb5
  replace hxk := hxk.keep hb5
  replace hyk := hyk.keep hb5
  have p0 : World.cell? w5 ⟨w1.heap.size, 0, none⟩ = some (.slice X xs.length cx) := hz2.cell 0
  have g0 := hz2.frozen 0
  have p1 : World.cell? w5 ⟨w1.heap.size, 1, none⟩ = some (.slice Y ys.length cy) := hz2.cell 1
  have g1 := hz2.frozen 1
  have p2 : World.cell? w5 ⟨w1.heap.size, 2, none⟩ = some (.int .i64 (M : Int)) := hz2.cell 2
  have g2 := hz2.frozen 2
  have p3 : World.cell? w5 ⟨w1.heap.size, 3, none⟩ = some (.int .i64 (Z : Int)) := hz2.cell 3
  have g3 := hz2.frozen 3
  have gl := hz2.lt
  go_wp2_with fail
  refine (HW2.out _ hxk hyk).mono ?_
  rintro _ w6 ⟨A6, c6, rfl, r6, hb6⟩
  clear p0 p1 p2 p3 g0 g1 g2 g3 gl
  have hB6 := bstep hB5 hb6
  go_wp2_with fail
  refine (HQ.out _ _ _ _ _ (r5.keep hb6) r6).mono ?_
  rintro _ _ ⟨rfl, n7, rfl⟩
  go_wp2
  go_ret
  exact ⟨rfl, below_drewN hB6 _⟩
end Wk
end Go.Proofs.Ytdekbncpodjgnaa
