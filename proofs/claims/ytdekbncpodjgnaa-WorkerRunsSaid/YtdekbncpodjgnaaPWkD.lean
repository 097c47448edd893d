/-
  Jobs of layer 19. Contracts: own, bounds, part, both Part.
  Jobs of layer 19. Contracts: bounds, part, both Part.
-/
import Derived.Test.YtdekbncpodjgnaaWkC
import Derived.Test.YtdekbncpodjgnaaAppend
import Derived.Deep.DrawnRows
import Derived.Deep.RegionLaw
import Derived.Laws.CopyOwn
namespace Go.Proofs.Ytdekbncpodjgnaa
open Go.RowKit
set_option linter.unusedVariables false
set_option linter.unusedSimpArgs false
namespace Wk
open Lagw

def ownF (xs : List Int) (S b k : Nat) : Int := if k / S = b then xs.getD k 0 else 0
def ownL (xs : List Int) (S b : Nat) : List Int := fullL (ownF xs S b) xs.length
theorem ownL_len (xs : List Int) (S b : Nat) : (ownL xs S b).length = xs.length := fullL_len _ _
theorem div_in {S b j : Nat} (hS : 1 ≤ S) : j / S = b ↔ b * S ≤ j ∧ j < b * S + S := by
  constructor
  · rintro rfl
    have h1 := Nat.div_mul_le_self j S
    have h2 := Nat.lt_div_mul_add (a := j) (b := S) (by omega)
    omega
  · rintro ⟨h1, h2⟩
    have h3 : b ≤ j / S := (Nat.le_div_iff_mul_le (by omega)).2 h1
    have h4 : j / S < b + 1 := (Nat.div_lt_iff_lt_mul (by omega)).2 (by rw [Nat.succ_mul]; exact h2)
    omega
theorem own_splice {xs : List Int} {S b lo hi : Nat} (hS : 1 ≤ S) (hlo : lo = b * S) (h1 : lo < xs.length) (hhi : hi = min (lo + S) xs.length) :
    splice (List.replicate xs.length (0 : Int)) lo ((xs.drop lo).take (hi - lo)) = ownL xs S b := by
  have hl : ((xs.drop lo).take (hi - lo)).length = hi - lo := by rw [List.length_take, List.length_drop]; omega
  show List.take lo (List.replicate xs.length (0 : Int)) ++ (List.take (hi - lo) (List.drop lo xs) ++ List.drop (lo + (List.take (hi - lo) (List.drop lo xs)).length) (List.replicate xs.length (0 : Int))) = ownL xs S b
  rw [hl]
  refine List.ext_getElem (by rw [ownL_len]; simp; omega) fun j h2 h3 => ?_
  rw [ownL_len] at h3
  have e : (ownL xs S b)[j]'(by rw [ownL_len]; exact h3) = ownF xs S b j := by
    have := fullL_getD (ownF xs S b) xs.length j 0 h3
    rw [List.getD_eq_getElem?_getD, List.getElem?_eq_getElem (by rw [fullL_len]; exact h3)] at this
    exact this
  rw [e]
  unfold ownF
  have hd := div_in (b := b) (j := j) hS
  rw [← hlo] at hd
  rcases Nat.lt_or_ge j lo with h4 | h4
  · rw [if_neg (by rw [hd]; omega), List.getElem_append_left (by simp; omega)]
    simp
  · rw [List.getElem_append_right (by simp; omega)]
    have e5 : (List.take lo (List.replicate xs.length (0 : Int))).length = lo := by simp; omega
    rcases Nat.lt_or_ge j hi with h5 | h5
    · rw [if_pos (by rw [hd]; omega), List.getElem_append_left (by rw [hl, e5]; omega)]
      simp [List.getD_eq_getElem?_getD, h3, show lo ≤ xs.length by omega, show lo + (j - lo) = j by omega, Nat.min_eq_left (show lo ≤ xs.length by omega)]
    · rw [if_neg (by rw [hd]; omega), List.getElem_append_right (by rw [hl, e5]; omega)]
      simp
theorem splice_flat (L cs : List Int) (lo : Nat) : splice (L.flatMap (encI .i64)) lo (cs.flatMap (encI .i64)) = (splice L lo cs).flatMap (encI .i64) := by
  rw [flatI, flatI, flatI]
  simp [splice, List.map_take, List.map_drop]

theorem info_int : (Try.prog.info? 3).map (fun i => (i.zero, i.size, i.bytes)) = some (some (.int .i64 0), 1, 8) := by kernel_rfl
set_option maxRecDepth 20000 in
set_option maxHeartbeats 2000000 in
theorem own19_any (X Y : Option Addr) (cx cy n : Nat) (xs : List Int) (m : Int) (S b : Nat) (w : World) (hx : RI .i64 w X xs) (hS1 : 1 ≤ S) (hS2 : S ≤ 256) (hl : xs.length ≤ 256) (hb : b ≤ 256) :
    Calls Try.prog 42 #[.agg #[.slice X xs.length cx, .slice Y n cy, .int .i64 m, .int .i64 (S : Int)], .int .i64 (b : Int)] w fun e w' => ∃ A c, e = .returned (.slice A xs.length c) ∧ RI .i64 w' A (ownL xs S b) ∧ Below w.heap.size w w' := by
  obtain ⟨i0, hi0, hz0, hz1, hz2⟩ := info_parts info_int
  have hk0 := Blk.new w 24 #[.slice X xs.length cx, .slice Y n cy, .int .i64 m, .int .i64 (S : Int)]
  have hb0 : Below w.heap.size w (w.alloc (.cells #[.slice X xs.length cx, .slice Y n cy, .int .i64 m, .int .i64 (S : Int)] 24)) := balloc (Below.refl _ _) _
  have hx0 := hx.keep hb0
  have hs0 : (w.alloc (.cells #[.slice X xs.length cx, .slice Y n cy, .int .i64 m, .int .i64 (S : Int)] 24)).heap.size = w.heap.size + 1 := by simp
  have z1 : ((S : Int) == 0) = false := by rw [beq_eq_false_iff_ne]; omega
  have z2 : ¬ ((S : Int) = 0) := by omega
  go_enter Try.func42, Try.ntmps42
  go_wp2
  generalize (w.alloc (.cells #[.slice X xs.length cx, .slice Y n cy, .int .i64 m, .int .i64 (S : Int)] 24)) = w0 at *
  go_loopg [5, 6] xs.length (fun gk v i wr => ∃ k : Nat, k + gk = xs.length ∧ i = .int .i64 k ∧ wr.ownsRow w0.heap.size 3 1 v k ((fullL (ownF xs S b) k).flatMap (encI .i64)) ∧ Below w0.heap.size w0 wr)
  case atStart => exact ⟨0, by omega, rfl, World.ownsRow_nil _ _ _ _, Below.refl _ _⟩
  case round =>
    obtain ⟨k, hk, rfl, hO, hbw⟩ := hrel
    have hk' : k ≤ xs.length := by omega
    have HK := Lib.hid hk
    clear hk
    have hkr := hk0.keep hbw
    have hsz := hbw.size
    have q0 : World.cell? wr ⟨w.heap.size, 0, none⟩ = some (.slice X xs.length cx) := hkr.cell 0
    have f0 := hkr.frozen 0
    have q1 : World.cell? wr ⟨w.heap.size, 1, none⟩ = some (.slice Y n cy) := hkr.cell 1
    have f1 := hkr.frozen 1
    have q2 : World.cell? wr ⟨w.heap.size, 2, none⟩ = some (.int .i64 m) := hkr.cell 2
    have f2 := hkr.frozen 2
    have q3 : World.cell? wr ⟨w.heap.size, 3, none⟩ = some (.int .i64 (S : Int)) := hkr.cell 3
    have f3 := hkr.frozen 3
    have fl := hkr.lt
    by_cases hlt : k < xs.length
    · obtain ⟨b1, o1, rfl, l1, h1⟩ := hx0.at2 hlt
      have h1' : wr.cell? ⟨b1, o1 + k, none⟩ = some (.int .i64 (xs.getD k 0)) := (hbw.cell (p := ⟨b1, o1 + k, none⟩) l1).trans h1
      have HN := Lib.hid (fullL_succ (ownF xs S b) k)
      obtain ⟨Q, hQ⟩ : ∃ Q, Q = k / S := ⟨_, rfl⟩
      have hQk : Q ≤ k := by rw [hQ]; exact Nat.div_le_self _ _
      have hQi : (k : Int) / (S : Int) = (Q : Int) := by rw [hQ, Int.natCast_ediv]
      have g1 : wrap64 ((k : Int) / (S : Int)) = (Q : Int) := by rw [← IntWalk.i64_left, hQi, IntWalk.i64_in _ (by omega)]
      have g2 : IntKind.i64.wrap ((k : Int) / (S : Int)) = (Q : Int) := by rw [IntWalk.i64_left]; exact g1
      by_cases hq : k / S = b
      · have hF : ownF xs S b k = xs.getD k 0 := if_pos hq
        rw [hF] at HN
        have e1 : ((Q : Int) == (b : Int)) = true := by rw [hQ, hq]; simp
        generalize xs.getD k 0 = x at *
        clear hQ hQk hq hF h1 hQi
        go_wp2_with (at_builtin; refine wpList_append_lies _ rfl (.tmp 20) (.tmp 26) 22 rfl w0.heap.size 3 i0 _ 1 8 Try.underlying22 hi0 hz0 hz1 hz2 rfl (by omega) _ k _ rfl (hO.alloc _) ⟨wr.heap.size, 0, none⟩ 1 1 (encI .i64 x) rfl rfl (encI_news wr _ _ _) (encI_one _ _) (by omega) (by unfold maxLen; omega) (by omega) (by simp; omega) (wr.heap.size + 1) (by simp) ?_; intro g4 c4 w4 hown4 hgrow4 hat4 hlt4)
        have hB4 := own_below (balloc hbw (.cells #[.int .i64 x] 3)) (hO.alloc _) hgrow4 (Nat.le_refl _) (by simp; omega)
        go_roundg (gk - 1)
        case rel => exact ⟨k + 1, by have := HK.out; omega, by go_num, by rw [HN.out, flat_snoc]; exact hown4, hB4⟩
        case measure => have := HK.out; omega
      · have hF : ownF xs S b k = 0 := if_neg hq
        rw [hF] at HN
        have hne : Q ≠ b := by rw [hQ]; exact hq
        have e1 : ((Q : Int) == (b : Int)) = false := by rw [beq_eq_false_iff_ne]; exact fun h => hne (Int.ofNat.inj h)
        clear hQ hQk hq hF h1 h1' hQi hne
        go_wp2_with (at_builtin; refine wpList_append_lies _ rfl (.tmp 28) (.tmp 29) 22 rfl w0.heap.size 3 i0 _ 1 8 Try.underlying22 hi0 hz0 hz1 hz2 rfl (by omega) _ k _ rfl (hO.alloc _) ⟨wr.heap.size, 0, none⟩ 1 1 (encI .i64 0) rfl rfl (encI_news wr _ _ _) (encI_one _ _) (by omega) (by unfold maxLen; omega) (by omega) (by simp; omega) (wr.heap.size + 1) (by simp) ?_; intro g4 c4 w4 hown4 hgrow4 hat4 hlt4)
        have hB4 := own_below (balloc hbw (.cells #[.int .i64 0] 3)) (hO.alloc _) hgrow4 (Nat.le_refl _) (by simp; omega)
        go_roundg (gk - 1)
        case rel => exact ⟨k + 1, by have := HK.out; omega, by go_num, by rw [HN.out, flat_snoc]; exact hown4, hB4⟩
        case measure => have := HK.out; omega
    · obtain rfl : k = xs.length := by omega
      obtain ⟨A1, c1, rfl, _⟩ := own_shape' hO
      go_wp2
      go_ret
      exact ⟨A1, c1, rfl, own_RI_at (fullL_len _ _) hO, bstep hb0 hbw⟩
end Wk
end Go.Proofs.Ytdekbncpodjgnaa
namespace Go.Proofs.Ytdekbncpodjgnaa
open Go.RowKit
set_option linter.unusedVariables false
set_option linter.unusedSimpArgs false
namespace Wk
open Lagw

set_option maxHeartbeats 2000000 in
theorem bounds_any (X Y : Option Addr) (cx cy n nx : Nat) (m : Int) (S b lo hi : Nat) (w : World) (hS1 : 1 ≤ S) (hS2 : S ≤ 256) (hl : nx ≤ 256) (hb : b ≤ 256) (hlo : lo = b * S) (hhi : hi = min (lo + S) nx) :
    Calls Try.prog 58 #[.agg #[.slice X nx cx, .slice Y n cy, .int .i64 m, .int .i64 (S : Int)], .int .i64 (b : Int)] w fun e w' => e = .returned (.tuple #[.int .i64 (lo : Int), .int .i64 (hi : Int)]) ∧ Below w.heap.size w w' := by
  have hk := Blk.new w 24 #[.slice X nx cx, .slice Y n cy, .int .i64 m, .int .i64 (S : Int)]
  have q0 : World.cell? (w.alloc (.cells #[.slice X nx cx, .slice Y n cy, .int .i64 m, .int .i64 (S : Int)] 24)) ⟨w.heap.size, 0, none⟩ = some (.slice X nx cx) := hk.cell 0
  have f0 := hk.frozen 0
  have q1 : World.cell? (w.alloc (.cells #[.slice X nx cx, .slice Y n cy, .int .i64 m, .int .i64 (S : Int)] 24)) ⟨w.heap.size, 1, none⟩ = some (.slice Y n cy) := hk.cell 1
  have f1 := hk.frozen 1
  have q2 : World.cell? (w.alloc (.cells #[.slice X nx cx, .slice Y n cy, .int .i64 m, .int .i64 (S : Int)] 24)) ⟨w.heap.size, 2, none⟩ = some (.int .i64 m) := hk.cell 2
  have f2 := hk.frozen 2
  have q3 : World.cell? (w.alloc (.cells #[.slice X nx cx, .slice Y n cy, .int .i64 m, .int .i64 (S : Int)] 24)) ⟨w.heap.size, 3, none⟩ = some (.int .i64 (S : Int)) := hk.cell 3
  have f3 := hk.frozen 3
  have fl := hk.lt
  have hm := Nat.mul_le_mul hb hS2
  obtain ⟨up, hup⟩ : ∃ up, up = lo + S := ⟨_, rfl⟩
  have f1 : IntKind.i64.wrap ((b : Int) * (S : Int)) = (lo : Int) := by rw [hlo]; exact mulw (by omega) (by omega)
  have f2 : IntKind.i64.wrap ((b : Int) + 1) = (b : Int) + 1 := IntWalk.i64_in _ (by omega)
  have f3 : IntKind.i64.wrap (((b : Int) + 1) * (S : Int)) = (up : Int) := by
    have := mulw (k := b + 1) (s := S) (by omega) (by omega)
    rw [show ((b + 1) * S : Nat) = up by rw [hup, hlo, Nat.succ_mul]] at this
    simpa using this
  by_cases h : nx < up
  · have d1 : ((nx : Int) < (up : Int)) := by omega
    obtain rfl : hi = nx := by omega
    clear hup hlo hhi hm
    go_enter Try.func58, Try.ntmps58
    go_wp2
    go_region_law (fail)
    all_goals
      go_wp2
      go_ret2
      exact ⟨rfl, (balloc (Below.refl _ _) _).drew⟩
  · have d1 : ¬ ((nx : Int) < (up : Int)) := by omega
    obtain rfl : hi = up := by omega
    clear hup hlo hhi hm
    go_enter Try.func58, Try.ntmps58
    go_wp2
    go_region_law (fail)
    all_goals
      go_wp2
      go_ret2
      exact ⟨rfl, (balloc (Below.refl _ _) _).drew⟩
end Wk
end Go.Proofs.Ytdekbncpodjgnaa
