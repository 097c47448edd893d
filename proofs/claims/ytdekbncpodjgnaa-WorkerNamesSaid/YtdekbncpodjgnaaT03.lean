/-
  Parts of the proof of WorkerNames: WkB WkD WkE WkF.
-/
import Derived.Test.YtdekbncpodjgnaaT02
import Derived.Test.YtdekbncpodjgnaaT01
import Derived.Laws.AppendOwnNone
import Derived.OwnWalk
import Derived.Deep.DrawnRows
import Derived.Deep.RegionLaw
import Derived.Laws.CopyOwn
import Derived.Deep.Onto
namespace Go.Proofs.Ytdekbncpodjgnaa
open Go.RowKit
set_option linter.unusedVariables false
set_option linter.unusedSimpArgs false
namespace Wk
open Lagw
theorem blocksS_err {xs ys : List Int} {m s : Int} (h : ¬ jobErr xs ys m s = 0) : blocksS xs ys m s = (0, jobErr xs ys m s) := by simp [blocksS, h]
theorem blocksS_ok {xs ys : List Int} {m s : Int} (h : jobErr xs ys m s = 0) : blocksS xs ys m s = (((cdiv xs.length s.toNat : Nat) : Int), 0) := by simp [blocksS, h]
def RetB (w : World) (r : Int × Int) (e : Ending) (w' : World) : Prop := e = .returned (.tuple #[.int .i64 r.1, .int .i64 r.2]) ∧ Below w.heap.size w w'
theorem RetB.of {w w' : World} {r : Int × Int} {a b : Int} (h : r = (a, b)) (hb : Below w.heap.size w w') : RetB w r (.returned (.tuple #[.int .i64 a, .int .i64 b])) w' := by subst h; exact ⟨rfl, hb⟩
set_option maxHeartbeats 1000000 in
theorem wkBlocks_any (X Y : Option Addr) (cx cy : Nat) (xs ys : List Int) (m s : Int) (w : World) (hx : RI .i64 w X xs) (hy : RI .i64 w Y ys) (hl : xs.length ≤ 140737488355328) (hl2 : ys.length ≤ 140737488355328) :
 Calls Try.prog 10 #[.agg #[.slice X xs.length cx, .slice Y ys.length cy, .int .i64 m, .int .i64 s]] w (RetB w (blocksS xs ys m s)) := by
 have hk := Blk.new w 24 #[.slice X xs.length cx, .slice Y ys.length cy, .int .i64 m, .int .i64 s]
 have hbX : Below w.heap.size w (w.alloc (.cells #[.slice X xs.length cx, .slice Y ys.length cy, .int .i64 m, .int .i64 s] 24)) := balloc (Below.refl _ _) _
 have q0 : World.cell? (w.alloc (.cells #[.slice X xs.length cx, .slice Y ys.length cy, .int .i64 m, .int .i64 s] 24)) ⟨w.heap.size, 0, none⟩ = some (.slice X xs.length cx) := hk.cell 0
 have f0 := hk.frozen 0
 have q1 : World.cell? (w.alloc (.cells #[.slice X xs.length cx, .slice Y ys.length cy, .int .i64 m, .int .i64 s] 24)) ⟨w.heap.size, 1, none⟩ = some (.slice Y ys.length cy) := hk.cell 1
 have f1 := hk.frozen 1
 have q2 : World.cell? (w.alloc (.cells #[.slice X xs.length cx, .slice Y ys.length cy, .int .i64 m, .int .i64 s] 24)) ⟨w.heap.size, 2, none⟩ = some (.int .i64 m) := hk.cell 2
 have f2 := hk.frozen 2
 have q3 : World.cell? (w.alloc (.cells #[.slice X xs.length cx, .slice Y ys.length cy, .int .i64 m, .int .i64 s] 24)) ⟨w.heap.size, 3, none⟩ = some (.int .i64 s) := hk.cell 3
 have f3 := hk.frozen 3
 have fl := hk.lt
 have hxk := hx.keep hbX
 have hyk := hy.keep hbX
 have HK := fun w hx hy => wkCheck_any X Y cx cy xs ys m s w hx hy hl hl2
 rcases (Decidable.em (jobErr xs ys m s = 0)).symm with he | he
 ·have e1 : (jobErr xs ys m s != 0) = true := by simp [he]
  have HR := Lib.hid (blocksS_err he)
  clear he
  generalize jobErr xs ys m s = J at *
  go_enter Try.func10, Try.ntmps10
  go_wp2_with fail
  refine (HK _ hxk hyk).mono ?_
  rintro _ w1 ⟨rfl, hb1⟩
  go_wp2
  go_ret2
  exact RetB.of HR.out (bstep hbX hb1)
 ·have HR := Lib.hid (blocksS_ok he)
  obtain ⟨hs1, hs2, M, S, rfl, rfl, hM, hS1, hS2, hC⟩ := jobErr_zero he
  have hl5 := (streamErr_zero hs1).1
  clear hs1 hs2
  rw [he] at HK
  clear he
  have HC := fun w => wkblk_any X Y xs.length ys.length cx cy M S w hS1 hS2 hl5
  go_enter Try.func10, Try.ntmps10
  go_wp2_with fail
  refine (HK _ hxk hyk).mono ?_
  rintro _ w1 ⟨rfl, hb1⟩
  have hk1 := hk.keep hb1
  have q0 : World.cell? w1 ⟨w.heap.size, 0, none⟩ = some (.slice X xs.length cx) := hk1.cell 0
  have f0 := hk1.frozen 0
  have q1 : World.cell? w1 ⟨w.heap.size, 1, none⟩ = some (.slice Y ys.length cy) := hk1.cell 1
  have f1 := hk1.frozen 1
  have q2 : World.cell? w1 ⟨w.heap.size, 2, none⟩ = some (.int .i64 (M : Int)) := hk1.cell 2
  have f2 := hk1.frozen 2
  have q3 : World.cell? w1 ⟨w.heap.size, 3, none⟩ = some (.int .i64 (S : Int)) := hk1.cell 3
  have f3 := hk1.frozen 3
  have fl := hk1.lt
  go_wp2_with fail
  refine (HC _).mono ?_
  rintro _ w2 ⟨rfl, hb2⟩
  go_wp2
  go_ret2
  exact RetB.of HR.out (bstep (bstep hbX hb1) hb2)
end Wk
end Go.Proofs.Ytdekbncpodjgnaa
namespace Go.Proofs.Ytdekbncpodjgnaa
open Go.RowKit
set_option linter.unusedVariables false
set_option linter.unusedSimpArgs false
namespace Wk
open Lagw
def ownF (xs : List Int) (S b k : Nat) : Int := if k / S = b then xs.getD k 0 else 0
def ownL (xs : List Int) (S b : Nat) : List Int := fullL (ownF xs S b) xs.length
theorem ownL_len (xs : List Int) (S b : Nat) : (ownL xs S b).length = xs.length := fullL_len _ _
theorem div_in {S b j : Nat} (hS : 1 ≤ S) : j / S = b ↔ b * S ≤ j ∧ j < b * S + S := by
 constructor
 ·rintro rfl
  have h1 := Nat.div_mul_le_self j S
  have h2 := Nat.lt_div_mul_add (a := j) (b := S) (by omega)
  omega
 ·rintro ⟨h1, h2⟩
  have h3 : b ≤ j / S := (Nat.le_div_iff_mul_le (by omega)).2 h1
  have h4 : j / S < b + 1 := (Nat.div_lt_iff_lt_mul (by omega)).2 (by rw [Nat.succ_mul]; exact h2)
  omega
theorem own_splice {xs : List Int} {S b lo hi : Nat} (hS : 1 ≤ S) (hlo : lo = b * S) (h1 : lo < xs.length) (hhi : hi = min (lo + S) xs.length) :
 splice (List.replicate xs.length (0 : Int)) lo ((xs.drop lo).take (hi - lo)) = ownL xs S b := by
 have hl : ((xs.drop lo).take (hi - lo)).length = hi - lo := by rw [List.length_take, List.length_drop]; omega
 show List.take lo (List.replicate xs.length (0 : Int)) ++ (List.take (hi - lo) (List.drop lo xs) ++ List.drop (lo + (List.take (hi - lo) (List.drop lo xs)).length) (List.replicate xs.length (0 : Int))) = ownL xs S b
 rw [hl]
 refine List.ext_getElem (by rw [ownL_len]; simp; omega) fun j h2 h3 => ?_
 rw [ownL_len] at h3
 have e : (ownL xs S b)[j]'(by rw [ownL_len]; exact h3) = ownF xs S b j := by
  have := fullL_getD (ownF xs S b) xs.length j 0 h3
  rw [List.getD_eq_getElem?_getD, List.getElem?_eq_getElem (by rw [fullL_len]; exact h3)] at this
  exact this
 rw [e]
 unfold ownF
 have hd := div_in (b := b) (j := j) hS
 rw [← hlo] at hd
 rcases Nat.lt_or_ge j lo with h4 | h4
 ·rw [if_neg (by rw [hd]; omega), List.getElem_append_left (by simp; omega)]
  simp
 ·rw [List.getElem_append_right (by simp; omega)]
  have e5 : (List.take lo (List.replicate xs.length (0 : Int))).length = lo := by simp; omega
  rcases Nat.lt_or_ge j hi with h5 | h5
  ·rw [if_pos (by rw [hd]; omega), List.getElem_append_left (by rw [hl, e5]; omega)]
   simp [List.getD_eq_getElem?_getD, h3, show lo ≤ xs.length by omega, show lo + (j - lo) = j by omega, Nat.min_eq_left (show lo ≤ xs.length by omega)]
  ·rw [if_neg (by rw [hd]; omega), List.getElem_append_right (by rw [hl, e5]; omega)]
   simp
theorem splice_flat (L cs : List Int) (lo : Nat) : splice (L.flatMap (encI .i64)) lo (cs.flatMap (encI .i64)) = (splice L lo cs).flatMap (encI .i64) := by
 rw [flatI, flatI, flatI]
 simp [splice, List.map_take, List.map_drop]
theorem info_int : (Try.prog.info? 3).map (fun i => (i.zero, i.size, i.bytes)) = some (some (.int .i64 0), 1, 8) := by kernel_rfl
end Wk
end Go.Proofs.Ytdekbncpodjgnaa
namespace Go.Proofs.Ytdekbncpodjgnaa
open Go.RowKit
set_option linter.unusedVariables false
set_option linter.unusedSimpArgs false
namespace Wk
open Lagw
set_option maxHeartbeats 2000000 in
theorem bounds_any (X Y : Option Addr) (cx cy n nx : Nat) (m : Int) (S b lo hi : Nat) (w : World) (hS1 : 1 ≤ S) (hS2 : S ≤ 256) (hl : nx ≤ 256) (hb : b ≤ 256) (hlo : lo = b * S) (hhi : hi = min (lo + S) nx) :
 Calls Try.prog 58 #[.agg #[.slice X nx cx, .slice Y n cy, .int .i64 m, .int .i64 (S : Int)], .int .i64 (b : Int)] w fun e w' => e = .returned (.tuple #[.int .i64 (lo : Int), .int .i64 (hi : Int)]) ∧ Below w.heap.size w w' := by
 have hk := Blk.new w 24 #[.slice X nx cx, .slice Y n cy, .int .i64 m, .int .i64 (S : Int)]
 have q0 : World.cell? (w.alloc (.cells #[.slice X nx cx, .slice Y n cy, .int .i64 m, .int .i64 (S : Int)] 24)) ⟨w.heap.size, 0, none⟩ = some (.slice X nx cx) := hk.cell 0
 have f0 := hk.frozen 0
 have q1 : World.cell? (w.alloc (.cells #[.slice X nx cx, .slice Y n cy, .int .i64 m, .int .i64 (S : Int)] 24)) ⟨w.heap.size, 1, none⟩ = some (.slice Y n cy) := hk.cell 1
 have f1 := hk.frozen 1
 have q2 : World.cell? (w.alloc (.cells #[.slice X nx cx, .slice Y n cy, .int .i64 m, .int .i64 (S : Int)] 24)) ⟨w.heap.size, 2, none⟩ = some (.int .i64 m) := hk.cell 2
 have f2 := hk.frozen 2
 have q3 : World.cell? (w.alloc (.cells #[.slice X nx cx, .slice Y n cy, .int .i64 m, .int .i64 (S : Int)] 24)) ⟨w.heap.size, 3, none⟩ = some (.int .i64 (S : Int)) := hk.cell 3
 have f3 := hk.frozen 3
 have fl := hk.lt
 have hm := Nat.mul_le_mul hb hS2
 obtain ⟨up, hup⟩ : ∃ up, up = lo + S := ⟨_, rfl⟩
 have f1 : IntKind.i64.wrap ((b : Int) * (S : Int)) = (lo : Int) := by rw [hlo]; exact mulw (by omega) (by omega)
 have f2 : IntKind.i64.wrap ((b : Int) + 1) = (b : Int) + 1 := IntWalk.i64_in _ (by omega)
 have f3 : IntKind.i64.wrap (((b : Int) + 1) * (S : Int)) = (up : Int) := by
  have := mulw (k := b + 1) (s := S) (by omega) (by omega)
  rw [show ((b + 1) * S : Nat) = up by rw [hup, hlo, Nat.succ_mul]] at this
  simpa using this
 by_cases h : nx < up
 ·have d1 : ((nx : Int) < (up : Int)) := by omega
  obtain rfl : hi = nx := by omega
  clear hup hlo hhi hm
  go_enter Try.func58, Try.ntmps58
  go_wp2
  go_region_law (fail)
  all_goals
   go_wp2
   go_ret2
   exact ⟨rfl, (balloc (Below.refl _ _) _).drew⟩
 ·have d1 : ¬ ((nx : Int) < (up : Int)) := by omega
  obtain rfl : hi = up := by omega
  clear hup hlo hhi hm
  go_enter Try.func58, Try.ntmps58
  go_wp2
  go_region_law (fail)
  all_goals
   go_wp2
   go_ret2
   exact ⟨rfl, (balloc (Below.refl _ _) _).drew⟩
end Wk
end Go.Proofs.Ytdekbncpodjgnaa
namespace Go.Proofs.Ytdekbncpodjgnaa
open Go.RowKit
set_option linter.unusedVariables false
set_option linter.unusedSimpArgs false
namespace Wk
open Lagw
theorem size_1 : (Try.prog.info? 3).map (·.size) = some 1 := by kernel_rfl
theorem und_ints : Try.prog.underlying 22 = some (.slice (Try.prog.elem 22)) := by kernel_rfl
theorem size_int : (sizeOf (Try.prog.elem 22)).run Try.prog = fun w => .ok 1 w := by
 funext w
 have h : Try.prog.elem 22 = 3 := by kernel_rfl
 obtain ⟨j0, hj0, hy0, hy1, hy2⟩ := info_parts info_int
 rw [h]
 simp [sizeOf, typeInfo, hj0, hy1]
theorem sub_run (b off len cap lo hi off' D E : Nat) (h0 : lo < cap) (h1 : lo ≤ hi) (h2 : hi ≤ cap) (ho : off' = off + lo) (hD : D = hi - lo) (hE : E = cap - lo) (w : World) :
 (Instr.slice 22 (.slice (some ⟨b, off, none⟩) len cap) (some (.int .i64 (lo : Int))) (some (.int .i64 (hi : Int))) none).run Try.prog w = .ok (.slice (some ⟨b, off', none⟩) D E) w := by
 subst ho; subst hD; subst hE
 rw [run_slice_lh w _ _ _ _ und_ints .i64 .i64 lo hi (by omega) (by omega) (by omega), size_int]
 have e : ¬ cap = lo := by omega
 simp [sliced, Result.andThen, e, Addr.add]
theorem lagOf_n (n : Nat) (A B : Option Addr) (c d : Nat) (xs ys : List Int) (most : Int) (w : World) (hn : xs.length = n) (hx : RI .i64 w A xs) (hy : RI .i64 w B ys) (hl : n ≤ 140737488355328) (hl2 : ys.length ≤ 140737488355328) :
 Calls Try.prog 32 #[.slice A n c, .slice B ys.length d, .int .i64 most] w (RetQ 75 w (ofSpec xs ys most)) := by
 subst hn
 exact lagOf_any A B c d xs ys most w hx hy hl hl2
set_option maxRecDepth 20000 in
set_option maxHeartbeats 4000000 in
theorem part_any (X Y : Option Addr) (cx cy : Nat) (xs ys : List Int) (m : Int) (S b : Nat) (w : World) (hx : RI .i64 w X xs) (hy : RI .i64 w Y ys) (hcx : xs.length ≤ cx) (hS1 : 1 ≤ S) (hS2 : S ≤ 256) (hl : xs.length ≤ 256) (hl2 : ys.length ≤ 256) (hb : b * S < xs.length) :
 Calls Try.prog 40 #[.agg #[.slice X xs.length cx, .slice Y ys.length cy, .int .i64 m, .int .i64 (S : Int)], .int .i64 (b : Int)] w (RetQ 75 w (ofSpec (ownL xs S b) ys m)) := by
 obtain ⟨i0, hi0, hz0, hz1, hz2⟩ := info_parts info_int
 have hmk := mk_row (P := Try.prog) 22 3 Try.underlying22 hi0 hz0 hz1 hz2 (encI .i64) (encI_len .i64) (by omega) 0 rfl xs.length (by omega) (by omega)
 have hk := Blk.new w 24 #[.slice X xs.length cx, .slice Y ys.length cy, .int .i64 m, .int .i64 (S : Int)]
 have hb0 : Below w.heap.size w (w.alloc (.cells #[.slice X xs.length cx, .slice Y ys.length cy, .int .i64 m, .int .i64 (S : Int)] 24)) := balloc (Below.refl _ _) _
 have q0 : World.cell? (w.alloc (.cells #[.slice X xs.length cx, .slice Y ys.length cy, .int .i64 m, .int .i64 (S : Int)] 24)) ⟨w.heap.size, 0, none⟩ = some (.slice X xs.length cx) := hk.cell 0
 have f0 := hk.frozen 0
 have q1 : World.cell? (w.alloc (.cells #[.slice X xs.length cx, .slice Y ys.length cy, .int .i64 m, .int .i64 (S : Int)] 24)) ⟨w.heap.size, 1, none⟩ = some (.slice Y ys.length cy) := hk.cell 1
 have f1 := hk.frozen 1
 have q2 : World.cell? (w.alloc (.cells #[.slice X xs.length cx, .slice Y ys.length cy, .int .i64 m, .int .i64 (S : Int)] 24)) ⟨w.heap.size, 2, none⟩ = some (.int .i64 m) := hk.cell 2
 have f2 := hk.frozen 2
 have q3 : World.cell? (w.alloc (.cells #[.slice X xs.length cx, .slice Y ys.length cy, .int .i64 m, .int .i64 (S : Int)] 24)) ⟨w.heap.size, 3, none⟩ = some (.int .i64 (S : Int)) := hk.cell 3
 have f3 := hk.frozen 3
 have fl := hk.lt
 have hb256 : b ≤ 256 := by
  have := Nat.mul_le_mul_left b hS1
  omega
 obtain ⟨lo, hlo⟩ : ∃ lo, lo = b * S := ⟨_, rfl⟩
 obtain ⟨hi, hhi⟩ : ∃ hi, hi = min (lo + S) xs.length := ⟨_, rfl⟩
 rw [← hlo] at hb
 have HSP := Lib.hid (own_splice hS1 hlo hb hhi)
 have HB := fun w => bounds_any X Y cx cy ys.length xs.length m S b lo hi w hS1 hS2 hl hb256 hlo hhi
 have h1 : lo ≤ hi := by omega
 have h2 : hi ≤ xs.length := by omega
 obtain ⟨bx, ox, rfl, lx, hcx0⟩ := hx (by omega)
 obtain ⟨D, hD⟩ : ∃ D, D = hi - lo := ⟨_, rfl⟩
 obtain ⟨E1, hE1⟩ : ∃ E1, E1 = xs.length - lo := ⟨_, rfl⟩
 obtain ⟨E2, hE2⟩ : ∃ E2, E2 = cx - lo := ⟨_, rfl⟩
 obtain ⟨ox2, hox⟩ : ∃ ox2, ox2 = ox + lo := ⟨_, rfl⟩
 have hr2 := sub_run bx ox xs.length cx lo hi ox2 D E2 (by omega) h1 (by omega) hox hD hE2
 obtain ⟨Z, hZ⟩ : ∃ Z, Z = (List.replicate xs.length (0 : Int)).flatMap (encI .i64) := ⟨_, rfl⟩
 obtain ⟨CS, hCS⟩ : ∃ CS, CS = ((xs.drop lo).take (hi - lo)).flatMap (encI .i64) := ⟨_, rfl⟩
 have lZ : Z.length = xs.length := by rw [hZ, flat_len _ 1 (encI_len .i64)]; simp
 have lCS : CS.length = D := by rw [hCS, flat_len _ 1 (encI_len .i64), hD]; simp; omega
 have HCS1 : Hid (∀ v ∈ CS, v.oneCell' = true) := Lib.hid (by rw [hCS]; intro u hu; obtain ⟨y, _, hy⟩ := List.mem_flatMap.1 hu; exact encI_one .i64 y u hy)
 have HSZ : Hid (splice Z lo CS = (ownL xs S b).flatMap (encI .i64)) := Lib.hid (by rw [hZ, hCS, splice_flat, HSP.out])
 have HSRC : Hid (∀ j v, CS[j]? = some v → w.cell? ((⟨bx, ox2, none⟩ : Addr).add j) = some v) := Lib.hid (fun j v hv => by
  rw [hCS, flatI, List.getElem?_map] at hv
  rcases hg : ((xs.drop lo).take (hi - lo))[j]? with _ | y
  ·rw [hg] at hv; cases hv
  ·rw [hg] at hv
   simp only [Option.map_some, Option.some.injEq] at hv
   have hj : j < hi - lo := by
    rcases Nat.lt_or_ge j (hi - lo) with h | h
    ·exact h
    ·rw [List.getElem?_eq_none (by rw [List.length_take]; omega)] at hg; cases hg
   rw [List.getElem?_take_of_lt hj, List.getElem?_drop] at hg
   have := hcx0 (lo + j) (by omega)
   rw [List.getD_eq_getElem?_getD, hg] at this
   have e : ((⟨bx, ox + lo, none⟩ : Addr).add j) = ⟨bx, ox + (lo + j), none⟩ := by
    by_cases h0 : j = 0
    ·subst h0; simp [Addr.add]
    ·simp [Addr.add, h0, Nat.add_assoc]
   rw [← hv, hox, e]
   exact this)
 rw [← hZ] at hmk
 have LZ := Lib.hid lZ
 have LCS := Lib.hid lCS
 have HLO := Lib.hid hb
 have HHI := Lib.hid h2
 have HDD := Lib.hid (show lo + D ≤ xs.length by omega)
 have hr1 := fun G => sub_run G 0 xs.length xs.length lo hi lo D E1 hb h1 h2 (by omega) hD hE1
 clear hZ hCS lZ lCS hD hE1 hE2 hox hhi hlo HSP
 go_enter Try.func40, Try.ntmps40
 go_wp2_with fail
 refine (HB _).mono ?_
 rintro _ w1 ⟨rfl, hb1⟩
 have hB1 := bstep hb0 hb1
 have hk1 := hk.keep hb1
 have hlt1 : w.heap.size < w1.heap.size := hk1.lt
 have p0 : World.cell? w1 ⟨w.heap.size, 0, none⟩ = some (.slice (some ⟨bx, ox, none⟩) xs.length cx) := hk1.cell 0
 have g0 := hk1.frozen 0
 have p1 : World.cell? w1 ⟨w.heap.size, 1, none⟩ = some (.slice Y ys.length cy) := hk1.cell 1
 have g1 := hk1.frozen 1
 have p2 : World.cell? w1 ⟨w.heap.size, 2, none⟩ = some (.int .i64 m) := hk1.cell 2
 have g2 := hk1.frozen 2
 have p3 : World.cell? w1 ⟨w.heap.size, 3, none⟩ = some (.int .i64 (S : Int)) := hk1.cell 3
 have g3 := hk1.frozen 3
 have gl := hk1.lt
 have hr1' := hr1 w1.heap.size
 go_wp2
 have hG : Blk (w1.alloc (.cells Z.toArray 3)).drew w1.heap.size 3 Z.toArray := (Blk.new w1 3 Z.toArray).drew
 have hBW : Below w.heap.size w (w1.alloc (.cells Z.toArray 3)).drew := (balloc hB1 _).drew
 go_region_law
  ((refine step_copy_splice rfl (.tmp 22) (.tmp 27) 22 22 rfl 3 Try.underlying22 size_1 (some ⟨w1.heap.size, lo, none⟩) (some ⟨bx, ox2, none⟩) D E1 D E2 rfl rfl w1.heap.size lo Z 3 hG CS (by rw [LCS.out]; exact (Nat.min_self D).symm) (fun _ => ⟨rfl, _, rfl, fun j v hv => (hBW.cell (p := (⟨bx, ox2, none⟩ : Addr).add j) (by unfold Addr.add; split <;> exact lx)).trans (HSRC.out j v hv)⟩) (by rw [LCS.out, LZ.out]; exact HDD.out) HCS1.out w1.heap.size _ (Below.refl _ _) (Nat.le_refl _) ?_; intro w4 hg4 hb4))
 all_goals
  have hk4 := ((hk1.alloc (.cells Z.toArray 3)).drew).below hb4 hlt1
  have hB4 : Below w.heap.size w w4 := hBW.trans (hb4.mono (Nat.le_of_lt hlt1))
  have hg5 : Blk w4 w1.heap.size 3 ((ownL xs S b).flatMap (encI .i64)).toArray := by have := hg4.out; rw [HSZ.out] at this; exact this
  have rx := blk_RI hg5
  clear hk hk1 hG hBW hB1 hb4 hg4 hg5 p0 p1 p2 p3 g0 g1 g2 g3 q0 q1 q2 q3 f0 f1 f2 f3 hb0 hb1
  have q0 : World.cell? w4 ⟨w.heap.size, 0, none⟩ = some (.slice (some ⟨bx, ox, none⟩) xs.length cx) := hk4.cell 0
  have f0 := hk4.frozen 0
  have q1 : World.cell? w4 ⟨w.heap.size, 1, none⟩ = some (.slice Y ys.length cy) := hk4.cell 1
  have f1 := hk4.frozen 1
  have q2 : World.cell? w4 ⟨w.heap.size, 2, none⟩ = some (.int .i64 m) := hk4.cell 2
  have f2 := hk4.frozen 2
  have q3 : World.cell? w4 ⟨w.heap.size, 3, none⟩ = some (.int .i64 (S : Int)) := hk4.cell 3
  have f3 := hk4.frozen 3
  have fl := hk4.lt
  go_wp2_with fail
  refine (lagOf_n xs.length _ _ _ _ _ _ m _ (ownL_len _ _ _) rx (hy.keep hB4) (by omega) (by omega)).mono ?_
  rintro _ w5 ⟨A5, c5, rfl, ho5, hb5⟩
  go_wp2
  go_ret2
  exact ⟨A5, c5, rfl, ho5.mono hB4.size, bstep hB4 hb5⟩
theorem own_stream {xs : List Int} (h : streamErr xs = 0) (S b : Nat) : streamErr (ownL xs S b) = 0 := by
 obtain ⟨h1, h2⟩ := streamErr_zero h
 refine streamErr_ok (by rw [ownL_len]; exact h1) fun x hx => ?_
 unfold ownL fullL at hx
 simp only [List.mem_map, List.mem_range] at hx
 obtain ⟨k, hk, rfl⟩ := hx
 unfold ownF
 split
 ·have : xs.getD k 0 = xs[k] := by simp [List.getD_eq_getElem?_getD, hk]
  rw [this]
  exact h2 _ (List.getElem_mem hk)
 ·decide
def partS (xs ys : List Int) (m s b : Int) : List (Int × Int) × Int :=
 if jobErr xs ys m s ≠ 0 then ([], jobErr xs ys m s) else if b < 0 ∨ (cdiv xs.length s.toNat : Int) ≤ b then ([], 2) else (lagCells (ownL xs s.toNat b.toNat) ys m.toNat, 0)
theorem partS_err {xs ys : List Int} {m s b : Int} (h : ¬ jobErr xs ys m s = 0) : partS xs ys m s b = ([], jobErr xs ys m s) := by simp [partS, h]
theorem partS_arg {xs ys : List Int} {m s b : Int} (h : jobErr xs ys m s = 0) (h2 : b < 0 ∨ (cdiv xs.length s.toNat : Int) ≤ b) : partS xs ys m s b = ([], 2) := by
 unfold partS; rw [if_neg (by simp [h]), if_pos h2]
theorem partS_ok {xs ys : List Int} {M S b : Nat} (h : jobErr xs ys M S = 0) (h2 : b < cdiv xs.length S) : partS xs ys M S b = (lagCells (ownL xs S b) ys M, 0) := by
 unfold partS; rw [if_neg (by simp [h]), if_neg (by simp; omega)]
 simp
set_option maxHeartbeats 4000000 in
theorem wkPart_any (X Y : Option Addr) (cx cy : Nat) (xs ys : List Int) (m s b : Int) (w : World) (hx : RI .i64 w X xs) (hy : RI .i64 w Y ys) (hcx : xs.length ≤ cx) (hl : xs.length ≤ 140737488355328) (hl2 : ys.length ≤ 140737488355328) :
 Calls Try.prog 12 #[.agg #[.slice X xs.length cx, .slice Y ys.length cy, .int .i64 m, .int .i64 s], .int .i64 b] w (RetQ 75 w (partS xs ys m s b)) := by
 have hk := Blk.new w 24 #[.slice X xs.length cx, .slice Y ys.length cy, .int .i64 m, .int .i64 s]
 have hbX : Below w.heap.size w (w.alloc (.cells #[.slice X xs.length cx, .slice Y ys.length cy, .int .i64 m, .int .i64 s] 24)) := balloc (Below.refl _ _) _
 have q0 : World.cell? (w.alloc (.cells #[.slice X xs.length cx, .slice Y ys.length cy, .int .i64 m, .int .i64 s] 24)) ⟨w.heap.size, 0, none⟩ = some (.slice X xs.length cx) := hk.cell 0
 have f0 := hk.frozen 0
 have q1 : World.cell? (w.alloc (.cells #[.slice X xs.length cx, .slice Y ys.length cy, .int .i64 m, .int .i64 s] 24)) ⟨w.heap.size, 1, none⟩ = some (.slice Y ys.length cy) := hk.cell 1
 have f1 := hk.frozen 1
 have q2 : World.cell? (w.alloc (.cells #[.slice X xs.length cx, .slice Y ys.length cy, .int .i64 m, .int .i64 s] 24)) ⟨w.heap.size, 2, none⟩ = some (.int .i64 m) := hk.cell 2
 have f2 := hk.frozen 2
 have q3 : World.cell? (w.alloc (.cells #[.slice X xs.length cx, .slice Y ys.length cy, .int .i64 m, .int .i64 s] 24)) ⟨w.heap.size, 3, none⟩ = some (.int .i64 s) := hk.cell 3
 have f3 := hk.frozen 3
 have fl := hk.lt
 have hxk := hx.keep hbX
 have hyk := hy.keep hbX
 have HK := fun w hx hy => wkCheck_any X Y cx cy xs ys m s w hx hy hl hl2
 rcases (Decidable.em (jobErr xs ys m s = 0)).symm with he | he
 ·have e1 : (jobErr xs ys m s != 0) = true := by simp [he]
  have HR := Lib.hid (partS_err (b := b) he)
  clear he
  generalize jobErr xs ys m s = J at HK e1 HR
  go_enter Try.func12, Try.ntmps12
  go_wp2_with fail
  refine (HK _ hxk hyk).mono ?_
  rintro _ w1 ⟨rfl, hb1⟩
  have hB1 := bstep hbX hb1
  go_wp2
  go_ret2
  exact RetQ.nil HR.out hB1
 ·obtain ⟨hs1, hs2, M, S, rfl, rfl, hM, hS1, hS2, hC⟩ := jobErr_zero he
  have HR1 := Lib.hid (fun b h2 => partS_arg (b := b) he h2)
  have HR2 := Lib.hid (fun b h2 => partS_ok (b := b) he h2)
  have hl5 := (streamErr_zero hs1).1
  have hl6 := (streamErr_zero hs2).1
  have HO := Lib.hid (fun b => ofSpec_ok (own_stream hs1 S b) hs2 (m := M) (by omega))
  have HCL := Lib.hid (fun k => cdiv_lt (n := xs.length) (k := k) hS1)
  rw [Int.toNat_natCast] at HR1
  rw [he] at HK
  clear hs1 hs2 he
  have HC := fun w => wkblk_any X Y xs.length ys.length cx cy M S w hS1 hS2 hl5
  generalize cdiv xs.length S = C at HR1 HR2 HC HCL hC
  by_cases hb0 : b < 0
  ·go_enter Try.func12, Try.ntmps12
   go_wp2_with fail
   refine (HK _ hxk hyk).mono ?_
   rintro _ w1 ⟨rfl, hb1⟩
   have hB1 := bstep hbX hb1
   go_wp2
   go_ret2
   exact RetQ.nil (HR1.out _ (.inl hb0)) hB1
  obtain ⟨B, rfl⟩ : ∃ B : Nat, b = B := ⟨b.toNat, by omega⟩
  have hb0' : decide ((B : Int) < 0) = false := decide_eq_false hb0
  by_cases hbC : C ≤ B
  ·have hbC' : decide ((C : Int) ≤ (B : Int)) = true := by simp; omega
   go_enter Try.func12, Try.ntmps12
   go_wp2_with fail
   refine (HK _ hxk hyk).mono ?_
   rintro _ w1 ⟨rfl, hb1⟩
   have hB1 := bstep hbX hb1
   have hk1 := hk.keep hb1
   have q0 : World.cell? w1 ⟨w.heap.size, 0, none⟩ = some (.slice X xs.length cx) := hk1.cell 0
   have f0 := hk1.frozen 0
   have q1 : World.cell? w1 ⟨w.heap.size, 1, none⟩ = some (.slice Y ys.length cy) := hk1.cell 1
   have f1 := hk1.frozen 1
   have q2 : World.cell? w1 ⟨w.heap.size, 2, none⟩ = some (.int .i64 (M : Int)) := hk1.cell 2
   have f2 := hk1.frozen 2
   have q3 : World.cell? w1 ⟨w.heap.size, 3, none⟩ = some (.int .i64 (S : Int)) := hk1.cell 3
   have f3 := hk1.frozen 3
   have fl := hk1.lt
   go_wp2_with fail
   refine (HC _).mono ?_
   rintro _ w2 ⟨rfl, hb2⟩
   go_wp2
   go_ret2
   exact RetQ.nil (HR1.out _ (.inr (by omega))) (bstep hB1 hb2)
  ·have hbC' : decide ((C : Int) ≤ (B : Int)) = false := by simp; omega
   have hin := (HCL.out B).1 (by omega)
   have HP := fun w hx hy => part_any X Y cx cy xs ys M S B w hx hy hcx hS1 hS2 hl5 hl6 hin
   rw [HO.out] at HP
   have HV := Lib.hid (HR2.out B (by omega))
   generalize lagCells (ownL xs S B) ys M = L at *
   clear HO HR1 HR2
   go_enter Try.func12, Try.ntmps12
   go_wp2_with fail
   refine (HK _ hxk hyk).mono ?_
   rintro _ w1 ⟨rfl, hb1⟩
   have hB1 := bstep hbX hb1
   have hk1 := hk.keep hb1
   have q0 : World.cell? w1 ⟨w.heap.size, 0, none⟩ = some (.slice X xs.length cx) := hk1.cell 0
   have f0 := hk1.frozen 0
   have q1 : World.cell? w1 ⟨w.heap.size, 1, none⟩ = some (.slice Y ys.length cy) := hk1.cell 1
   have f1 := hk1.frozen 1
   have q2 : World.cell? w1 ⟨w.heap.size, 2, none⟩ = some (.int .i64 (M : Int)) := hk1.cell 2
   have f2 := hk1.frozen 2
   have q3 : World.cell? w1 ⟨w.heap.size, 3, none⟩ = some (.int .i64 (S : Int)) := hk1.cell 3
   have f3 := hk1.frozen 3
   have fl := hk1.lt
   go_wp2_with fail
   refine (HC _).mono ?_
   rintro _ w2 ⟨rfl, hb2⟩
   have hB2 := bstep hB1 hb2
   have hk2 := hk1.keep hb2
   have q0 : World.cell? w2 ⟨w.heap.size, 0, none⟩ = some (.slice X xs.length cx) := hk2.cell 0
   have f0 := hk2.frozen 0
   have q1 : World.cell? w2 ⟨w.heap.size, 1, none⟩ = some (.slice Y ys.length cy) := hk2.cell 1
   have f1 := hk2.frozen 1
   have q2 : World.cell? w2 ⟨w.heap.size, 2, none⟩ = some (.int .i64 (M : Int)) := hk2.cell 2
   have f2 := hk2.frozen 2
   have q3 : World.cell? w2 ⟨w.heap.size, 3, none⟩ = some (.int .i64 (S : Int)) := hk2.cell 3
   have f3 := hk2.frozen 3
   have fl := hk2.lt
   go_wp2_with fail
   refine (HP _ (hx.keep hB2) (hy.keep hB2)).mono ?_
   rintro _ w3 ⟨A3, c3, rfl, ho3, hb3⟩
   go_wp2
   go_ret2
   rw [HV.out]
   exact ⟨A3, c3, rfl, ho3.mono hB2.size, bstep hB2 hb3⟩
end Wk
end Go.Proofs.Ytdekbncpodjgnaa
