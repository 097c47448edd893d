/-
  Layer 12 (bank): the chapter's examples (alive), and fit.
-/
import Derived.Test.YtnhjeelcgfobnaaBkV
namespace Go.Proofs.Ytnhjeelcgfobnaa
open Go.RowKit Num
set_option maxRecDepth 8000
set_option linter.unusedVariables false
set_option linter.unusedSimpArgs false
namespace Bk
open Lol Crs

theorem pr_tr12 {p F : Nat} (h2 : 2 ≤ p) (ht : tr p F = true) (hF : p < (F + 2) * (F + 2)) : Pr p :=
  pr_trial h2 (fun d hd hdd => tr_at ht hd (by
    apply Classical.byContradiction
    intro hc
    have := Nat.mul_le_mul (show F + 2 ≤ d by omega) (show F + 2 ≤ d by omega)
    omega))
theorem fwdL_val {P : Nat} {l : List Int} {R : Nat} (hR : rootN P l.length = R) : fwdL P l = fullL (trF P l (pwF P R)) l.length := by unfold fwdL; rw [hR]
theorem bkL_val {P : Nat} {l : List Int} {R : Nat} (hR : rootN P l.length = R) : bkL P l = fullL (fun k => trF P l (pwF P (invN P R)) k * ((invN P l.length : Nat) : Int) % (P : Int)) l.length := by unfold bkL bkF; rw [hR]
theorem pr_17 : Pr 17 := pr_tr12 (F := 3) (by omega) (by decide) (by omega)
theorem pr_2' : Pr 2 := pr_tr12 (F := 0) (by omega) (by decide) (by omega)
theorem facs_16 : facs 16 = [2, 2, 2, 2] := facs_eq ⟨by decide, by intro x hx; simp only [List.mem_cons, List.not_mem_nil, or_false] at hx; rcases hx with rfl | rfl | rfl | rfl <;> exact pr_2', by decide⟩
theorem gn_17 : genN 17 = 3 := gen_at pr_17 (by omega) (by omega) (by unfold Gen; rw [facs_16]; decide) (by intro m h1 h2; unfold Gen; rw [facs_16]; rcases (show m = 1 ∨ m = 2 by omega) with rfl | rfl <;> decide)
theorem rt_17 : rootN 17 4 = 13 := by unfold rootN; rw [gn_17]
def sA : List Int := [1, 0, 0, 0, 1, 1, 1, 1]
def bA : List (List Int) := [[1, 1, 1, 1], [4, 0, 0, 0]]
def kA : List (List Int) := [[1, 0, 0, 0], [4, 0, 0, 0]]
def tA : List Int := [0, 1, 0, 0, 1, 1, 1, 1]
theorem strA : Strm 17 4 sA := ⟨by omega, by omega, pr_17, by omega, by omega, by decide, by omega, fun j hj => by
  have h : sA.all (fun x => decide (-3 ≤ x ∧ x ≤ 3)) = true := by decide
  have := List.all_eq_true.1 h _ (List.getElem_mem hj)
  rw [getD_lt _ _ hj]
  simpa using this, by decide⟩
theorem spA0 : spF 17 4 sA 0 = [1, 1, 1, 1] := by unfold spF; rw [fwdL_val (R := 13) (by rw [resL_len]; exact rt_17)]; decide
theorem spA1 : spF 17 4 sA 1 = [4, 0, 0, 0] := by unfold spF; rw [fwdL_val (R := 13) (by rw [resL_len]; exact rt_17)]; decide
theorem spA : splitL 17 4 sA = bA := by
  show [spF 17 4 sA 0, spF 17 4 sA 1] = bA
  rw [spA0, spA1]; rfl
theorem bankA : Bank 17 4 bA := by rw [← spA]; exact bank_split strA
theorem splA : splitS ((17 : Nat) : Int) ((4 : Nat) : Int) sA = (bA, 0) := by rw [split_ok strA, spA]
theorem kepA : keepS ((17 : Nat) : Int) bA [true, false, false, false] = (kA, 0) := by
  rw [keep_ok2 (n := 4) (by omega) (by omega) pr_17 bankA rfl]
  exact congrArg (fun l => (l, (0 : Int))) (show kpL 4 bA [true, false, false, false] = kA by decide)
theorem bankK : Bank 17 4 kA := by
  have h := bank_kp (P := 17) (n := 4) (by omega) (by omega) (by omega) (by decide) bankA [true, false, false, false]
  rw [show kpL 4 bA [true, false, false, false] = kA by decide] at h
  exact h
theorem mrgK : mergeS ((17 : Nat) : Int) kA = ([], 16) := by
  rw [merge_ok (n := 4) (by omega) (by omega) pr_17 bankK (by decide), if_pos]
  refine mrg_any (t := 0) (by decide) ?_
  show (mrR 17 [1, 0, 0, 0]).any badS = true
  unfold mrR
  rw [bkL_val (R := 13) rt_17]
  decide
theorem shfA : shiftS ((17 : Nat) : Int) bA 1 = (splitL 17 4 tA, 0) := by
  have h := shift_split strA 1
  rw [spA, show rotD 1 4 = 1 by decide, show trn 4 1 sA = tA by decide] at h
  exact h
theorem strT : Strm 17 4 tA := by
  have h := trn_strm 1 strA
  rw [show trn 4 1 sA = tA by decide] at h
  exact h
theorem mrgT : mergeS ((17 : Nat) : Int) (splitL 17 4 tA) = (tA, 0) := merge_split strT
theorem powA : powS ((17 : Nat) : Int) bA bA = ([0, 1, 1, 1], 0) := by
  unfold powS
  rw [if_neg (by rw [two_ok (P := 17) (n := 4) (by omega) (by omega) pr_17 bankA bankA rfl]; simp)]
  exact congrArg (fun l => (l, (0 : Int))) (by decide)
/-! ### contracts at given lengths -/
theorem ll_w {k : IntKind} {w : World} {r : List (List Int) × Int} {e : Ending} {w' : World} {L : List (List Int)} {x : Int} {n : Nat} (h : RetLL k w r e w') (hr : r = (L, x)) (hn : L.length = n) : ∃ A c, e = .returned (.tuple #[.slice A n c, .int .i64 x]) ∧ RLL k w' A L ∧ Below w.heap.size w w' := by
  subst hr; subst hn; exact h
theorem fe_w {w : World} {r : List Int × Int} {e : Ending} {w' : World} {L : List Int} {x : Int} {n : Nat} (h : RetFE w r e w') (hr : r = (L, x)) (hn : L.length = n) : ∃ A c, e = .returned (.tuple #[.slice A n c, .int .i64 x]) ∧ RI .i64 w' A L ∧ Below w.heap.size w w' := by
  subst hr; subst hn; exact h
theorem split_w (p n : Int) (s : List Int) (L : List (List Int)) (x : Int) (m k : Nat) (hr : splitS p n s = (L, x)) (hm : s.length = m) (hk : L.length = k) (hp1 : -9223372036854775808 ≤ p) (hp2 : p ≤ 9223372036854775807) (hl : m ≤ 1000) (A : Option Addr) (c : Nat) (hcap : m ≤ c) (w : World) (hx : RI .i64 w A s) :
    Calls Try.prog 20 #[.int .i64 p, .int .i64 n, .slice A m c] w fun e w' => ∃ A c, e = .returned (.tuple #[.slice A k c, .int .i64 x]) ∧ RLL .i64 w' A L ∧ Below w.heap.size w w' := by
  subst hm
  exact (split_any p n A c s w hp1 hp2 hx (by omega) hcap).mono fun _ _ h => ll_w h hr hk
theorem merge_w (p : Int) (b : List (List Int)) (L : List Int) (x : Int) (m k : Nat) (hr : mergeS p b = (L, x)) (hm : b.length = m) (hk : L.length = k) (hp1 : -9223372036854775808 ≤ p) (hp2 : p ≤ 9223372036854775807) (A : Option Addr) (c : Nat) (w : World) (hx : RLL .i64 w A b) :
    Calls Try.prog 22 #[.int .i64 p, .slice A m c] w fun e w' => ∃ A c, e = .returned (.tuple #[.slice A k c, .int .i64 x]) ∧ RI .i64 w' A L ∧ k ≤ c ∧ Below w.heap.size w w' := by
  subst hm
  refine (mergeC_any p A c b w hp1 hp2 hx).mono fun _ _ h => ?_
  rw [hr] at h
  subst hk
  exact h
theorem keep_w (p : Int) (b : List (List Int)) (kp : List Bool) (L : List (List Int)) (x : Int) (m n k : Nat) (hr : keepS p b kp = (L, x)) (hm : b.length = m) (hn : kp.length = n) (hk : L.length = k) (hp1 : -9223372036854775808 ≤ p) (hp2 : p ≤ 9223372036854775807) (A : Option Addr) (c : Nat) (K : Option Addr) (ck : Nat) (w : World) (hx : RLL .i64 w A b) (hy : RBo w K kp) :
    Calls Try.prog 24 #[.int .i64 p, .slice A m c, .slice K n ck] w fun e w' => ∃ A c, e = .returned (.tuple #[.slice A k c, .int .i64 x]) ∧ RLL .i64 w' A L ∧ Below w.heap.size w w' := by
  subst hm; subst hn
  exact (keep_any p A c b K ck kp w hp1 hp2 hx hy).mono fun _ _ h => ll_w h.ll hr hk
theorem shift_w (p : Int) (b : List (List Int)) (d : Int) (L : List (List Int)) (x : Int) (m k : Nat) (hr : shiftS p b d = (L, x)) (hm : b.length = m) (hk : L.length = k) (hp1 : -9223372036854775808 ≤ p) (hp2 : p ≤ 9223372036854775807) (hd : -9223372036854775808 ≤ d ∧ d ≤ 9223372036854775807) (A : Option Addr) (c : Nat) (w : World) (hx : RLL .i64 w A b) :
    Calls Try.prog 13 #[.int .i64 p, .slice A m c, .int .i64 d] w fun e w' => ∃ A c, e = .returned (.tuple #[.slice A k c, .int .i64 x]) ∧ RLL .i64 w' A L ∧ Below w.heap.size w w' := by
  subst hm
  exact (shift_any p A c b d w hp1 hp2 hd hx).mono fun _ _ h => ll_w h hr hk
theorem add_w (p : Int) (a b : List (List Int)) (L : List (List Int)) (x : Int) (m n k : Nat) (hr : addS p a b = (L, x)) (hm : a.length = m) (hn : b.length = n) (hk : L.length = k) (hp1 : -9223372036854775808 ≤ p) (hp2 : p ≤ 9223372036854775807) (A : Option Addr) (c : Nat) (B : Option Addr) (d : Nat) (w : World) (hx : RLL .i64 w A a) (hy : RLL .i64 w B b) :
    Calls Try.prog 11 #[.int .i64 p, .slice A m c, .slice B n d] w fun e w' => ∃ A c, e = .returned (.tuple #[.slice A k c, .int .i64 x]) ∧ RLL .i64 w' A L ∧ Below w.heap.size w w' := by
  subst hm; subst hn
  exact (add_any p A c a B d b w hp1 hp2 hx hy).mono fun _ _ h => ll_w h.ll hr hk
theorem power_w (p : Int) (a b : List (List Int)) (L : List Int) (x : Int) (m n k : Nat) (hr : powS p a b = (L, x)) (hm : a.length = m) (hn : b.length = n) (hk : L.length = k) (hp1 : -9223372036854775808 ≤ p) (hp2 : p ≤ 9223372036854775807) (A : Option Addr) (c : Nat) (B : Option Addr) (d : Nat) (w : World) (hx : RLL .i64 w A a) (hy : RLL .i64 w B b) :
    Calls Try.prog 15 #[.int .i64 p, .slice A m c, .slice B n d] w fun e w' => ∃ A c, e = .returned (.tuple #[.slice A k c, .int .i64 x]) ∧ RI .i64 w' A L ∧ Below w.heap.size w w' := by
  subst hm; subst hn
  exact (power_any p A c a B d b w hp1 hp2 hx hy).mono fun _ _ h => fe_w h hr hk
theorem same12_w (L : List (List Int)) (m : Nat) (hm : L.length = m) (hL : Small L) (A B : Option Addr) (c d : Nat) (w : World) (hx : RLL .i64 w A L) (hy : RLL .i64 w B L) :
    Calls Try.prog 17 #[.slice A m c, .slice B m d] w fun e w' => e = .returned (.bool true) ∧ ∃ n, w' = w.drewN n := by
  subst hm
  exact (same12_any A B c d L L w hx hy hL hL).mono fun _ _ ⟨h1, h2⟩ => ⟨by rw [h1]; simp, h2⟩
theorem sameStreams_w (L : List Int) (m : Nat) (hm : L.length = m) (hl : m ≤ 1000) (A B : Option Addr) (c d : Nat) (w : World) (hx : RI .i64 w A L) (hy : RI .i64 w B L) :
    Calls Try.prog 26 #[.slice A m c, .slice B m d] w fun e w' => e = .returned (.bool true) ∧ ∃ n, w' = w.drewN n := by
  subst hm
  exact (sameStreams_any A B c d L L w hx hy (by omega) (by omega)).mono fun _ _ ⟨h1, h2⟩ => ⟨by rw [h1]; simp, h2⟩
theorem same10_w (L : List Int) (m : Nat) (hm : L.length = m) (hl : m ≤ 1000) (A B : Option Addr) (c d : Nat) (w : World) (hx : RI .i64 w A L) (hy : RI .i64 w B L) :
    Calls Try.prog 18 #[.slice A m c, .slice B m d] w fun e w' => e = .returned (.bool true) ∧ ∃ n, w' = w.drewN n := by
  subst hm
  exact (same10_any A B c d L L w hx hy (by omega) (by omega)).mono fun _ _ ⟨h1, h2⟩ => ⟨by rw [h1]; simp, h2⟩
/-- A literal bank. -/
theorem RLL_lit {W : World} {g : Nat} {t : TypeId} {raws : Array Value} (hk : Blk W g t raws) (L : List (List Int)) (hlen : raws.size = L.length) (h : ∀ j (hj : j < L.length), ∃ A c, raws[j]? = some (.slice A L[j].length c) ∧ RI .i64 W A L[j] ∧ L[j].length ≤ c) : RLL .i64 W (some ⟨g, 0, none⟩) L := by
  intro h0
  refine ⟨g, 0, rfl, hk.lt, fun j hj => ?_⟩
  obtain ⟨A, c, h1, h2, h3⟩ := h j hj
  exact ⟨A, c, by rw [Nat.zero_add, hk.cell]; exact h1, h2, h3⟩
theorem given12 (w : World) : Calls Try.prog 51 #[] w fun e w' => ∃ g, e = .returned (.slice (some ⟨g, 0, none⟩) 8 8) ∧ RI .i64 w' (some ⟨g, 0, none⟩) sA ∧ Below w.heap.size w w' := by
  go_enter Try.func51, Try.ntmps51
  go_wp2
  go_ret
  exact ⟨_, rfl, RI_lit' (t := 3) sA _ rfl (Blk.new _ _ _) rfl, balloc (Below.refl _ _) _⟩
set_option maxRecDepth 20000 in
set_option maxHeartbeats 4000000 in
theorem alive12 (w : World) : Calls Try.prog 28 #[] w fun e w' => e = .returned (.bool true) ∧ Below w.heap.size w w' := by
  have HS := Lib.hid (split_w 17 4 sA bA 0 8 2 splA rfl rfl (by omega) (by omega) (by omega))
  have HK := Lib.hid (keep_w 17 bA [true, false, false, false] kA 0 2 4 2 kepA rfl rfl rfl (by omega) (by omega))
  have HM := Lib.hid (merge_w 17 kA [] 16 2 0 mrgK rfl rfl (by omega) (by omega))
  have HH := Lib.hid (shift_w 17 bA 1 (splitL 17 4 tA) 0 2 2 shfA rfl (splitL_len _ _ _) (by omega) (by omega) (by omega))
  have HM2 := Lib.hid (merge_w 17 (splitL 17 4 tA) tA 0 2 8 mrgT (splitL_len _ _ _) rfl (by omega) (by omega))
  have HP := Lib.hid (power_w 17 bA bA [0, 1, 1, 1] 0 2 2 4 powA rfl rfl rfl (by omega) (by omega))
  have SB : Small bA := ⟨by decide, by decide⟩
  generalize splitL 17 4 tA = X at *
  go_enter Try.func28, Try.ntmps28
  go_wp2_with fail
  refine (given12 _).mono ?_
  rintro _ w1 ⟨g1, rfl, r1, hB1⟩
  go_wp2_with fail
  refine (HS.out _ _ (by omega) _ r1).mono ?_
  rintro _ w2 ⟨A2, c2, rfl, r2, hb2⟩
  have hB2 := bstep hB1 hb2
  clear hb2 hB1 r1
  have hkb := Blk.new w2 4 #[.bool true, .bool false, .bool false, .bool false]
  have rb := blk_RBo (l := [true, false, false, false]) hkb
  go_wp2_with fail
  refine (HK.out _ _ _ _ _ (r2.keep (balloc (Below.refl _ _) _)) rb).mono ?_
  rintro _ w3 ⟨A3, c3, rfl, r3, hb3⟩
  have hb23 := bstep (balloc (Below.refl w2.heap.size w2) (.cells #[.bool true, .bool false, .bool false, .bool false] 4)) hb3
  have hB3 := bstep hB2 hb23
  replace r2 := r2.keep hb23
  clear hb23 hb3 hB2 hkb rb
  go_wp2_with fail
  refine (HM.out _ _ _ r3).mono ?_
  rintro _ w4 ⟨A4, c4, rfl, r4, _, hb4⟩
  have hB4 := bstep hB3 hb4
  replace r2 := r2.keep hb4
  clear hb4 hB3 r3 r4
  go_wp2_with fail
  refine (HH.out _ _ _ r2).mono ?_
  rintro _ w5 ⟨A5, c5, rfl, r5, hb5⟩
  have hB5 := bstep hB4 hb5
  replace r2 := r2.keep hb5
  clear hb5 hB4
  go_wp2_with fail
  refine (HM2.out _ _ _ r5).mono ?_
  rintro _ w6 ⟨A6, c6, rfl, r6, _, hb6⟩
  have hB6 := bstep hB5 hb6
  replace r2 := r2.keep hb6
  clear hb6 hB5 r5
  go_wp2_with fail
  refine (HP.out _ _ _ _ _ r2 r2).mono ?_
  rintro _ w7 ⟨A7, c7, rfl, r7, hb7⟩
  have hB7 := bstep hB6 hb7
  replace r2 := r2.keep hb7
  replace r6 := r6.keep hb7
  clear hb7 hB6
  have k1 := ((Blk.new w7 2 #[.int .i64 1, .int .i64 1, .int .i64 1, .int .i64 1]).alloc (.cells #[.int .i64 4, .int .i64 0, .int .i64 0, .int .i64 0] 2)).alloc (.cells #[.slice (some ⟨w7.heap.size, 0, none⟩) 4 4, .slice (some ⟨w7.heap.size + 1, 0, none⟩) 4 4] 31)
  have k2 := (Blk.newAt (w := w7.alloc (.cells #[.int .i64 1, .int .i64 1, .int .i64 1, .int .i64 1] 2)) (g := w7.heap.size + 1) 2 #[.int .i64 4, .int .i64 0, .int .i64 0, .int .i64 0] (by simp)).alloc (.cells #[.slice (some ⟨w7.heap.size, 0, none⟩) 4 4, .slice (some ⟨w7.heap.size + 1, 0, none⟩) 4 4] 31)
  have k3 := Blk.newAt (w := (w7.alloc (.cells #[.int .i64 1, .int .i64 1, .int .i64 1, .int .i64 1] 2)).alloc (.cells #[.int .i64 4, .int .i64 0, .int .i64 0, .int .i64 0] 2)) (g := w7.heap.size + 1 + 1) 31 #[.slice (some ⟨w7.heap.size, 0, none⟩) 4 4, .slice (some ⟨w7.heap.size + 1, 0, none⟩) 4 4] (by simp)
  have hb8 : Below w7.heap.size w7 (((w7.alloc (.cells #[.int .i64 1, .int .i64 1, .int .i64 1, .int .i64 1] 2)).alloc (.cells #[.int .i64 4, .int .i64 0, .int .i64 0, .int .i64 0] 2)).alloc (.cells #[.slice (some ⟨w7.heap.size, 0, none⟩) 4 4, .slice (some ⟨w7.heap.size + 1, 0, none⟩) 4 4] 31)) := balloc (balloc (balloc (Below.refl _ _) _) _) _
  go_wp2_with fail
  generalize (((w7.alloc (.cells #[.int .i64 1, .int .i64 1, .int .i64 1, .int .i64 1] 2)).alloc (.cells #[.int .i64 4, .int .i64 0, .int .i64 0, .int .i64 0] 2)).alloc (.cells #[.slice (some ⟨w7.heap.size, 0, none⟩) 4 4, .slice (some ⟨w7.heap.size + 1, 0, none⟩) 4 4] 31)) = w8 at *
  have rl := RLL_lit k3 bA rfl (fun j hj => by
    match j, hj with
    | 0, _ => exact ⟨_, 4, rfl, RI_lit' (t := 2) [1, 1, 1, 1] _ rfl k1 rfl, Nat.le_refl 4⟩
    | 1, _ => exact ⟨_, 4, rfl, RI_lit' (t := 2) [4, 0, 0, 0] _ rfl k2 rfl, Nat.le_refl 4⟩
    | j + 2, h => exact absurd h (by simp [bA]))
  have hB8 := bstep hB7 hb8
  replace r2 := r2.keep hb8
  replace r6 := r6.keep hb8
  replace r7 := r7.keep hb8
  refine (same12_w bA 2 rfl SB _ _ _ _ _ r2 rl).mono ?_
  rintro _ w9 ⟨rfl, q9, rfl⟩
  have kt := fun W => Blk.new W 3 #[.int .i64 0, .int .i64 1, .int .i64 0, .int .i64 0, .int .i64 1, .int .i64 1, .int .i64 1, .int .i64 1]
  have kp := fun W => Blk.new W 2 #[.int .i64 0, .int .i64 1, .int .i64 1, .int .i64 1]
  go_wp2_with fail
  refine (sameStreams_w tA 8 rfl (by omega) _ _ _ _ _ (r6.keep (balloc (below_drewN (Below.refl _ _) _) _)) (RI_lit' (t := 3) tA _ rfl (kt _) rfl)).mono ?_
  rintro _ w9 ⟨rfl, q10, rfl⟩
  have hB9 : Below w.heap.size w (World.drewN ((World.drewN w8 q9).alloc (.cells #[.int .i64 0, .int .i64 1, .int .i64 0, .int .i64 0, .int .i64 1, .int .i64 1, .int .i64 1, .int .i64 1] 3)) q10) := below_drewN (balloc (below_drewN hB8 _) _) _
  have hb9 : Below w8.heap.size w8 (World.drewN ((World.drewN w8 q9).alloc (.cells #[.int .i64 0, .int .i64 1, .int .i64 0, .int .i64 0, .int .i64 1, .int .i64 1, .int .i64 1, .int .i64 1] 3)) q10) := below_drewN (balloc (below_drewN (Below.refl _ _) _) _) _
  generalize World.drewN ((World.drewN w8 q9).alloc (.cells #[.int .i64 0, .int .i64 1, .int .i64 0, .int .i64 0, .int .i64 1, .int .i64 1, .int .i64 1, .int .i64 1] 3)) q10 = w10 at *
  go_wp2_with fail
  refine (same10_w [0, 1, 1, 1] 4 rfl (by omega) _ _ _ _ _ ((r7.keep hb9).keep (balloc (Below.refl _ _) _)) (RI_lit' (t := 2) [0, 1, 1, 1] _ rfl (kp _) rfl)).mono ?_
  rintro _ w11 ⟨rfl, q11, rfl⟩
  go_wp2
  go_ret
  exact ⟨rfl, below_drewN (balloc hB9 _) _⟩
end Bk
end Go.Proofs.Ytnhjeelcgfobnaa
