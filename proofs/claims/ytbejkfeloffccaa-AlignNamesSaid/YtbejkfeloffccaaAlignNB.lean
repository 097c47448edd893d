/-
  The walk of AlignNames.
-/
import Derived.Test.YtbejkfeloffccaaAlignNA
namespace Go.Proofs.Ytbejkfeloffccaa
open Go.RowKit
set_option linter.unusedVariables false
set_option linter.unusedSimpArgs false

def zI (n : Nat) : Array Value := ((List.replicate n (0 : Int)).flatMap (encI .i64)).toArray
theorem zN_RI {w : World} {g n : Nat} {t : TypeId} (h : Blk w g t (zI n)) : RI .i64 w (some ⟨g, 0, none⟩) (List.replicate n 0) := by
  refine RI_lit' (t := t) _ _ rfl h ?_
  unfold zI
  rw [List.flatMap_replicate]
  simp [encI]
theorem mkI (n : Nat) (hn : n ≤ 1000) (w : World) : (Instr.makeSlice 22 (.int .i64 (n : Int)) (.int .i64 (n : Int))).run Try.prog w = .ok (.slice (some ⟨w.heap.size, 0, none⟩) n n) (w.alloc (.cells (zI n) 3)) := by
  obtain ⟨i0, hi0, hz0, hz1, hz2⟩ := info_parts info_int
  exact mk_row (P := Try.prog) 22 3 Try.underlying22 hi0 hz0 hz1 hz2 (encI .i64) (encI_len .i64) (by omega) 0 rfl n (by omega) (by omega) w
theorem mk257 (w : World) : (Instr.makeSlice 22 (.int .i64 257) (.int .i64 257)).run Try.prog w = .ok (.slice (some ⟨w.heap.size, 0, none⟩) 257 257) (w.alloc (.cells (zI 257) 3)) := mkI 257 (by omega) w
theorem mk256 (w : World) : (Instr.makeSlice 22 (.int .i64 256) (.int .i64 256)).run Try.prog w = .ok (.slice (some ⟨w.heap.size, 0, none⟩) 256 256) (w.alloc (.cells (zI 256) 3)) := mkI 256 (by omega) w
def zB (n : Nat) : Array Value := ((List.replicate n ((0 : Int), Value.slice none 0 0)).flatMap encK).toArray
theorem mkB65 (w : World) : (Instr.makeSlice 37 (.int .i64 65) (.int .i64 65)).run Try.prog w = .ok (.slice (some ⟨w.heap.size, 0, none⟩) 65 65) (w.alloc (.cells (zB 65) 47)) := by
  obtain ⟨i0, hi0, hz0, hz1, hz2⟩ := info_parts info_block
  exact mk_row (P := Try.prog) 37 47 Try.underlying37 hi0 hz0 hz1 hz2 encK encK_len (by omega) (0, .slice none 0 0) rfl 65 (by omega) (by omega) w
theorem nq1 : delaySpec [2] 0 = ([], 8) := by decide +kernel
theorem nq2 : delaySpec [] 65 = ([], 2) := by decide +kernel
theorem nq3 : delaySpec [] (-65) = ([], 2) := by decide +kernel
theorem nq4 : gapsSpec (List.replicate 257 0) = ([], 4) := by decide +kernel
theorem delay_at (r : List Int × Int) (A : Option Addr) (c n : Nat) (xs : List Int) (d : Int) (h : delaySpec xs d = r) (hn : xs.length = n) (w : World) (hx : RI .i64 w A xs) (hl : n ≤ 1000) :
    Calls Try.prog 11 #[.slice A n c, .int .i64 d] w (RetI 3 w r) := by
  subst h; subst hn; exact alignDelay_any A c xs d w hx (by omega)
theorem gaps_at (r : List (Int × Int) × Int) (A : Option Addr) (c n : Nat) (xs : List Int) (h : gapsSpec xs = r) (hn : xs.length = n) (w : World) (hx : RI .i64 w A xs) (hl : n ≤ 1000) :
    Calls Try.prog 13 #[.slice A n c] w (RetQ 69 w r) := by
  subst h; subst hn; exact alignGaps_any A c xs w hx (by omega)
theorem put_at (q : Nat) (x : Int) (A : Option Addr) (c n : Nat) (l : List (Int × List Int)) (a : Int) (xs : List Int) (B : Option Addr) (m d : Nat) (h : ((putS l (a, xs)).1.length, (putS l (a, xs)).2) = (q, x)) (hn : l.length = n) (hm : xs.length = m) (hln : n ≤ 1000) (hlm : m ≤ 1000) (hcap : n ≤ c) (hall : ∀ b ∈ l, b.2.length ≤ 1000) (w : World) (hx : RB w A l) (hy : RI .i64 w B xs) :
    Calls Try.prog 25 #[.slice A n c, .agg #[.int .i64 a, .slice B m d]] w fun e w' => (∃ A c, e = .returned (.tuple #[.slice A q c, .int .i64 x])) ∧ Below w.heap.size w w' := by
  injection h with h1 h2
  subst h1; subst h2; subst hn; subst hm
  exact (alignPut_any A c l (a, xs) B d w hx hcap hy (by omega) (fun b hb => Nat.le_trans (hall b hb) (by omega)) (by simp only; omega)).mono fun e w' ⟨A, c, he, _, _, hb⟩ => ⟨⟨A, c, he⟩, hb⟩
theorem window_at (r : List Int × Int) (a m : Int) (h : winSpec [] a m = r) (w : World) :
    Calls Try.prog 18 #[.slice none 0 0, .int .i64 a, .int .i64 m] w (RetI 3 w r) := by
  subst h
  exact alignWindow_any none 0 [] a m w RB.nil (by simp) (by simp)
theorem align_at (r : (List Int × List Int) × Int) (A B : Option Addr) (c e n k : Nat) (l l' : List (Int × List Int)) (d a m : Int) (h : alnSpec l l' d a m = r) (hn : l.length = n) (hk : l'.length = k) (hln : n ≤ 1000) (hlk : k ≤ 1000) (hall : ∀ b ∈ l, b.2.length ≤ 140737488355328) (hall' : ∀ b ∈ l', b.2.length ≤ 140737488355328) (w : World) (hx : RB w A l) (hy : RB w B l') :
    Calls Try.prog 20 #[.slice A n c, .slice B k e, .int .i64 d, .int .i64 a, .int .i64 m] w (RetII w r) := by
  subst h; subst hn; subst hk
  exact alignAlign_any A B c e l l' d a m w hx hy (by omega) hall (by omega) hall'
theorem count_bad (A : Option Addr) (c n : Nat) (l : List (Int × List Int)) (hn : l.length = n) (he : recErr l = 8) (hln : n ≤ 1000) (hall : ∀ b ∈ l, b.2.length ≤ 140737488355328) (w : World) (hx : RB w A l) :
    Calls Try.prog 23 #[.slice A n c] w fun e w' => e = .returned (.tuple #[.int .i64 0, .int .i64 8]) ∧ Below w.heap.size w w' := by
  subst hn
  have hc : countS l = (0, 8) := by rw [count_err (by rw [he]; decide), he]
  refine (alignCount_any A c l w hx (by omega) hall).mono fun e w' h => ?_
  unfold CountPost at h
  rw [hc] at h
  exact h
theorem check_at (A : Option Addr) (c n : Nat) (l : List (Int × List Int)) (x : Int) (hn : l.length = n) (he : recErr l = x) (hln : n ≤ 1000) (hall : ∀ b ∈ l, b.2.length ≤ 140737488355328) (w : World) (hx : RB w A l) :
    Calls Try.prog 27 #[.slice A n c] w fun e w' => e = .returned (.int .i64 x) ∧ Below w.heap.size w w' := by
  subst hn; subst he
  exact alignCheck_any A c l w hx (by omega) hall
def mostL (k : Nat) : List (Int × List Int) := (List.range k).map (fun i : Nat => (2 * (i : Int), [1]))
theorem mostL_succ (k : Nat) : mostL (k + 1) = mostL k ++ [(2 * (k : Int), [1])] := by simp [mostL, List.range_succ]
theorem mostL_len (k : Nat) : (mostL k).length = k := by simp [mostL]
theorem mostL_all (k : Nat) : ∀ b ∈ mostL k, b.2.length ≤ 1000 := by
  intro b hb
  simp only [mostL, List.mem_map] at hb
  obtain ⟨i, _, rfl⟩ := hb
  simp
theorem RIo_one (w : World) : RIo w.heap.size (w.alloc (.cells #[.int .i64 1] 3)) (some ⟨w.heap.size, 0, none⟩) [1] := by
  intro _
  refine ⟨w.heap.size, 0, rfl, Nat.le_refl _, by simp, fun j hj => ?_⟩
  obtain rfl : j = 0 := by simpa using hj
  exact (Blk.new w 3 #[.int .i64 1]).cell 0
theorem zB_RB {w : World} {g n : Nat} {t : TypeId} (h : Blk w g t (zB n)) : RB w (some ⟨g, 0, none⟩) (List.replicate n (0, [])) := by
  intro h0
  refine ⟨g, 0, rfl, h.lt, fun j hj => ?_⟩
  have hj' : j < (List.replicate n ((0 : Int), Value.slice none 0 0)).length := by simpa using hj
  have k1 := flat_get encK 2 encK_len (List.replicate n ((0 : Int), Value.slice none 0 0)) j 0 (by omega) hj'
  have k2 := flat_get encK 2 encK_len (List.replicate n ((0 : Int), Value.slice none 0 0)) j 1 (by omega) hj'
  have c1 := h.cell (j * 2 + 0)
  have c2 := h.cell (j * 2 + 1)
  unfold zB at c1 c2
  rw [List.getElem?_toArray, k1] at c1
  rw [List.getElem?_toArray, k2] at c2
  simp [encK] at c1 c2
  have e : (List.replicate n ((0 : Int), ([] : List Int)))[j] = (0, []) := List.getElem_replicate _
  rw [e]
  exact ⟨by simpa using c1, none, 0, by simpa using c2, RI.nil, by simp⟩
theorem enc_newsG {w : World} {cs : Array Value} {l : List Value} {g : Nat} (t : TypeId) (hg : w.heap.size = g) (h : cs = l.toArray) : ∀ j u, l[j]? = some u → (w.alloc (.cells cs t)).cell? ((⟨g, 0, none⟩ : Addr).add j) = some u := by
  subst hg
  exact enc_news t h
theorem nr1 : ((putS (mostL 64) (128, [1])).1.length, (putS (mostL 64) (128, [1])).2) = (0, 4) := by decide +kernel
theorem nr2 : ((putS (mostL 64) (1, [3])).1.length, (putS (mostL 64) (1, [3])).2) = (63, 0) := by decide +kernel
theorem nr3 : ((putS [(0, List.replicate 256 0)] (256, [1])).1.length, (putS [(0, List.replicate 256 0)] (256, [1])).2) = (0, 16) := by decide +kernel
theorem nr4 : ((putS [(0, List.replicate 256 0)] (257, [1])).1.length, (putS [(0, List.replicate 256 0)] (257, [1])).2) = (2, 0) := by decide +kernel
theorem nr5 : ((putS [] (0, [])).1.length, (putS [] (0, [])).2) = (0, 8) := by decide +kernel
theorem nr6 : ((putS [] (1000000, [0])).1.length, (putS [] (1000000, [0])).2) = (1, 0) := by decide +kernel
theorem z256_all : ∀ b ∈ [((0 : Int), List.replicate 256 (0 : Int))], b.2.length ≤ 1000 := by
  intro b hb
  simp only [List.mem_singleton] at hb
  subst hb
  simp only [List.length_replicate]
  omega
theorem nr7 : recErr (List.replicate 65 ((0 : Int), ([] : List Int))) = 4 := by decide +kernel
theorem nw1 : winSpec [] (-1000001) 1 = ([], 2) := by decide +kernel
theorem nw2 : winSpec [] 2000001 1 = ([], 2) := by decide +kernel
theorem nw3 : winSpec [] 0 257 = ([], 2) := by decide +kernel
theorem nw4 : winSpec [] 0 (-1) = ([], 2) := by decide +kernel
theorem na1 : alnSpec [] [(0, [])] 0 0 1 = (([], []), 8) := by decide +kernel
theorem na2 : alnSpec [] [] 65 0 1 = (([], []), 2) := by decide +kernel
theorem na3 : alnSpec [] [] 0 0 (-1) = (([], []), 2) := by decide +kernel
theorem na4 : alnSpec [(0, [1, 1]), (5, [3])] [(0, [1, 1]), (5, [3])] 5 (-1) 4 = (([0, 1, 0, 0], [0, 3, 0, 0]), 0) := by decide +kernel
set_option maxRecDepth 100000 in
set_option maxHeartbeats 16000000 in
theorem alignNames_walk (w : World) : Calls Try.prog 9 #[] w fun e w' => e = .returned (.bool true) ∧ Below w.heap.size w w' := by
  have m1 := mk257
  have m2 := mk256
  have m3 := mkB65
  go_enter Try.func9, Try.ntmps9
  go_wp2_with fail
  refine (delay_at _ _ _ 1 [2] 0 nq1 rfl _ (RI_lit' (t := 3) [2] _ rfl (Blk.newAt _ _ (by simp)) rfl) (by omega)).mono ?_
  rintro _ w1 ⟨A1, c1, rfl, ho1, hb1⟩
  have hB1 := bstep (balloc (Below.refl _ _) _) hb1
  clear hb1 ho1
  go_wp2_with fail
  refine (delay_at _ none 0 0 [] 65 nq2 rfl _ RI.nil (by omega)).mono ?_
  rintro _ w2 ⟨A2, c2, rfl, ho2, hb2⟩
  have hB2 := bstep hB1 hb2
  clear hb2 ho2 hB1
  go_wp2_with fail
  refine (delay_at _ none 0 0 [] (-65) nq3 rfl _ RI.nil (by omega)).mono ?_
  rintro _ w3 ⟨A3, c3, rfl, ho3, hb3⟩
  have hB3 := bstep hB2 hb3
  clear hb3 ho3 hB2
  go_wp2_with fail
  refine (gaps_at _ _ _ 257 (List.replicate 257 0) nq4 List.length_replicate _ (zN_RI (Blk.newAt _ _ (by simp))) (by omega)).mono ?_
  rintro _ w4 ⟨A4, c4, rfl, ho4, hb4⟩
  have hB4 := bstep (balloc hB3 _) hb4
  clear hb4 ho4 hB3 m1
  obtain ⟨i0, hi0, hz0, hz1, hz2⟩ := info_parts info_block
  obtain ⟨hbi, hb5⟩ := badsI w4
  go_wp2
  obtain ⟨W5, hW5⟩ : ∃ W5, W5 = ((((((((((((((w4.alloc (.cells #[.int .i64 0, .slice none 0 0] 47)).alloc (.cells #[.int .i64 1] 3)).alloc (.cells #[.int .i64 (-1), .slice (some ⟨w4.heap.size + 1, 0, none⟩) 1 1] 47)).alloc (.cells #[.int .i64 1] 3)).alloc (.cells #[.int .i64 1000001, .slice (some ⟨w4.heap.size + 1 + 1 + 1, 0, none⟩) 1 1] 47)).alloc (.cells #[.int .i64 2] 3)).alloc (.cells #[.int .i64 0, .slice (some ⟨w4.heap.size + 1 + 1 + 1 + 1 + 1, 0, none⟩) 1 1] 47)).alloc (.cells #[.int .i64 1, .int .i64 1] 3)).alloc (.cells #[.int .i64 1] 3)).alloc (.cells #[.int .i64 0, .slice (some ⟨w4.heap.size + 1 + 1 + 1 + 1 + 1 + 1 + 1, 0, none⟩) 2 2, .int .i64 1, .slice (some ⟨w4.heap.size + 1 + 1 + 1 + 1 + 1 + 1 + 1 + 1, 0, none⟩) 1 1] 47)).alloc (.cells #[.int .i64 1] 3)).alloc (.cells #[.int .i64 1] 3)).alloc (.cells #[.int .i64 5, .slice (some ⟨w4.heap.size + 1 + 1 + 1 + 1 + 1 + 1 + 1 + 1 + 1 + 1, 0, none⟩) 1 1, .int .i64 0, .slice (some ⟨w4.heap.size + 1 + 1 + 1 + 1 + 1 + 1 + 1 + 1 + 1 + 1 + 1, 0, none⟩) 1 1] 47)).alloc (.cells #[.slice (some ⟨w4.heap.size, 0, none⟩) 1 1, .slice (some ⟨w4.heap.size + 1 + 1, 0, none⟩) 1 1, .slice (some ⟨w4.heap.size + 1 + 1 + 1 + 1, 0, none⟩) 1 1, .slice (some ⟨w4.heap.size + 1 + 1 + 1 + 1 + 1 + 1, 0, none⟩) 1 1, .slice (some ⟨w4.heap.size + 1 + 1 + 1 + 1 + 1 + 1 + 1 + 1 + 1, 0, none⟩) 2 2, .slice (some ⟨w4.heap.size + 1 + 1 + 1 + 1 + 1 + 1 + 1 + 1 + 1 + 1 + 1 + 1, 0, none⟩) 2 2] 37)) := ⟨_, rfl⟩
  rw [← hW5] at hbi hb5 ⊢
  clear hW5
  obtain ⟨g, hg⟩ : ∃ g, g = w4.heap.size + 1 + 1 + 1 + 1 + 1 + 1 + 1 + 1 + 1 + 1 + 1 + 1 + 1 := ⟨_, rfl⟩
  rw [← hg] at hbi ⊢
  clear hg
  have hB5 := bstep hB4 hb5
  clear hB4 hb5
  generalize w4.heap.size = h0 at hbi
  go_loopg [10, 11, 12] 6 (fun gk i _ _ wr => ∃ k : Nat, k + gk = 6 ∧ i = .int .i64 k ∧ BadsI h0 g wr ∧ Below w.heap.size w wr)
  case atStart => exact ⟨0, by omega, rfl, hbi, hB5⟩
  case round =>
    clear hbi hB5
    obtain ⟨k, hk, rfl, hI, hb⟩ := hrel
    have hk' : k ≤ 6 := by omega
    have HK := Lib.hid hk
    clear hk
    by_cases hlt : k < 6
    · obtain ⟨a, n, L, c0, rb, hn, hn2, he, hs⟩ := hI.at_ k hlt
      have hil := hI.lt
      go_wp2_with fail
      refine (count_bad _ _ _ L hn he (by omega) hs _ rb).mono ?_
      rintro _ w6 ⟨rfl, hb6⟩
      have c1 := (hb6.cell (p := ⟨g, k, none⟩) hil).trans c0
      have hI6 := hI.keep hb6
      have hil6 := hI6.lt
      clear c0 hil
      go_wp2_with fail
      refine (check_at _ _ _ L 8 hn he (by omega) hs _ (rb.keep hb6)).mono ?_
      rintro _ w7 ⟨rfl, hb7⟩
      go_wp2
      go_roundg (gk - 1)
      case rel => exact ⟨k + 1, by have := HK.out; omega, by go_num, hI6.keep hb7, bstep (bstep hb hb6) hb7⟩
      case measure => have := HK.out; omega
    obtain rfl : k = 6 := by omega
    obtain ⟨wl, rfl⟩ : ∃ wl, wl = wr := ⟨_, rfl⟩
    go_wp2
    go_loopg [13, 14] 64 (fun gk v i wr => ∃ (k : Nat) (raws : List (Int × Value)), k + gk = 64 ∧ i = .int .i64 k ∧ wr.ownsRow wl.heap.size 47 2 v k (raws.flatMap encK) ∧ Elems wl.heap.size wr v.ownBlock raws (mostL k) ∧ Below wl.heap.size wl wr)
    case atStart => exact ⟨0, [], by omega, rfl, World.ownsRow_nil _ _ _ _, Elems.nil, Below.refl _ _⟩
    case round =>
      obtain ⟨k, raws, hk, rfl, hO, hE, hbl⟩ := hrel
      have hk' : k ≤ 64 := by omega
      have HK := Lib.hid hk
      clear hk
      have hrl : raws.length = k := by rw [hE.1]; exact mostL_len k
      have HRL := Lib.hid hrl
      clear hrl
      have hsz := hbl.size
      by_cases hlt : k < 64
      · have f1 : IntKind.i64.wrap (2 * (k : Int)) = 2 * (k : Int) := IntWalk.i64_in _ (by omega)
        have hne : 0 < [(1 : Int)].length → ∀ b off, (some (⟨wr.heap.size, 0, none⟩ : Addr)) = some ⟨b, off, none⟩ → Value.ownBlock u13 ≠ some b := by
          intro _ b off e e2
          injection e with e
          injection e with e _
          have := (hO.lt b e2).2
          omega
        go_wp2_with (at_builtin; refine wpList_append_lies _ rfl _ _ 37 rfl wl.heap.size 47 i0 _ 2 32 Try.underlying37 hi0 hz0 hz1 hz2 rfl (by decide) _ k _ rfl ((hO.alloc _).alloc _) ⟨wr.heap.size + 1, 0, none⟩ 1 1 (encK (2 * (k : Int), .slice (some ⟨wr.heap.size, 0, none⟩) 1 1)) rfl rfl (enc_newsG _ (by simp) rfl) encK_one (by omega) (by unfold maxLen; omega) (by omega) (by simp; omega) (wr.heap.size + 1 + 1) (by simp) ?_; intro g4 c4 w7 hown4 hgrow4 hat4 hlt4)
        have hE4 := (hE.keep (balloc (balloc (Below.refl _ _) (.cells #[.int .i64 1] 3)) (.cells #[.int .i64 (2 * (k : Int)), .slice (some ⟨wr.heap.size, 0, none⟩) 1 1] 47))).push (a := 2 * (k : Int)) (xs := [1]) (c := 1) (((RIo_one wr).mono hsz).keep (balloc (Below.refl _ _) (.cells #[.int .i64 (2 * (k : Int)), .slice (some ⟨wr.heap.size, 0, none⟩) 1 1] 47))) (by simp) hne hgrow4 hat4 (by simp)
        go_roundg (gk - 1)
        case rel => exact ⟨k + 1, _, by have := HK.out; omega, by go_num, by rw [flat_snoc]; exact hown4, by rw [mostL_succ]; exact hE4, own_below (balloc (balloc hbl (.cells #[.int .i64 1] 3)) (.cells #[.int .i64 (2 * (k : Int)), .slice (some ⟨wr.heap.size, 0, none⟩) 1 1] 47)) ((hO.alloc _).alloc _) hgrow4 (Nat.le_refl _) (by simp; omega)⟩
        case measure => have := HK.out; omega
      · obtain rfl : k = 64 := by omega
        obtain ⟨A13, c13, rfl, hc13⟩ := own_shape' hO
        have rbm : RB wr A13 (mostL 64) := (own_RBo hO hE HRL.out).rb
        have hI9 := hI.keep hbl
        have hB9 := bstep hb hbl
        clear hO hE hI hb hbl
        obtain ⟨w9, rfl⟩ : ∃ w9, w9 = wr := ⟨_, rfl⟩
        go_wp2_with fail
        refine (check_at _ 65 65 (List.replicate 65 (0, [])) 4 List.length_replicate nr7 (by omega) (by simp) _ (zB_RB (Blk.newAt _ _ (by simp)))).mono ?_
        rintro _ w10 ⟨rfl, hb10⟩
        have hB10 := bstep (balloc hB9 _) hb10
        replace rbm := (rbm.keep (balloc (Below.refl _ _) _)).keep hb10
        replace hI9 := (hI9.keep (balloc (Below.refl _ _) _)).keep hb10
        clear hb10 hB9
        go_wp2_with fail
        refine (put_at 0 4 _ _ 64 (mostL 64) 128 [1] _ 1 1 nr1 (mostL_len 64) rfl (by omega) (by omega) hc13 (mostL_all 64) _ (rbm.keep (balloc (Below.refl _ _) _)) (RI_lit' (t := 3) [1] _ rfl (Blk.newAt _ _ (by simp)) rfl)).mono ?_
        rintro _ w11 ⟨⟨A16, c16, rfl⟩, hb11⟩
        have hB11 := bstep (balloc hB10 _) hb11
        replace rbm := (rbm.keep (balloc (Below.refl _ _) _)).keep hb11
        replace hI9 := (hI9.keep (balloc (Below.refl _ _) _)).keep hb11
        clear hb11 hB10
        go_wp2_with fail
        refine (put_at 63 0 _ _ 64 (mostL 64) 1 [3] _ 1 1 nr2 (mostL_len 64) rfl (by omega) (by omega) hc13 (mostL_all 64) _ (rbm.keep (balloc (Below.refl _ _) _)) (RI_lit' (t := 3) [3] _ rfl (Blk.newAt _ _ (by simp)) rfl)).mono ?_
        rintro _ w12 ⟨⟨A18, c18, rfl⟩, hb12⟩
        have hB12 := bstep (balloc hB11 _) hb12
        replace hI9 := (hI9.keep (balloc (Below.refl _ _) _)).keep hb12
        clear hb12 hB11 rbm
        go_wp2_with fail
        refine (put_at 0 16 _ _ 1 [(0, List.replicate 256 0)] 256 [1] _ 1 1 nr3 rfl rfl (by omega) (by omega) (Nat.le_refl _) z256_all _ (RB_lit1 rfl ((Blk.newAt _ _ (by simp)).alloc _) (zN_RI (((Blk.newAt _ _ (by simp)).alloc _).alloc _)) List.length_replicate (Nat.le_refl _)) (RI_lit' (t := 3) [1] _ rfl (Blk.newAt _ _ (by simp)) rfl)).mono ?_
        rintro _ w13 ⟨⟨A20, c20, rfl⟩, hb13⟩
        have hB13 := bstep (balloc (balloc (balloc hB12 _) _) _) hb13
        replace hI9 := (hI9.keep (balloc (balloc (balloc (Below.refl _ _) _) _) _)).keep hb13
        clear hb13 hB12
        go_wp2_with fail
        refine (put_at 2 0 _ _ 1 [(0, List.replicate 256 0)] 257 [1] _ 1 1 nr4 rfl rfl (by omega) (by omega) (Nat.le_refl _) z256_all _ (RB_lit1 rfl ((Blk.newAt _ _ (by simp)).alloc _) (zN_RI (((Blk.newAt _ _ (by simp)).alloc _).alloc _)) List.length_replicate (Nat.le_refl _)) (RI_lit' (t := 3) [1] _ rfl (Blk.newAt _ _ (by simp)) rfl)).mono ?_
        rintro _ w14 ⟨⟨A22, c22, rfl⟩, hb14⟩
        have hB14 := bstep (balloc (balloc (balloc hB13 _) _) _) hb14
        replace hI9 := (hI9.keep (balloc (balloc (balloc (Below.refl _ _) _) _) _)).keep hb14
        clear hb14 hB13
        go_wp2_with fail
        refine (put_at 0 8 none 0 0 [] 0 [] none 0 0 nr5 rfl rfl (by omega) (by omega) (Nat.le_refl _) (by simp) _ RB.nil RI.nil).mono ?_
        rintro _ w15 ⟨⟨A24, c24, rfl⟩, hb15⟩
        have hB15 := bstep hB14 hb15
        replace hI9 := hI9.keep hb15
        clear hb15 hB14
        go_wp2_with fail
        refine (window_at _ (-1000001) 1 nw1 _).mono ?_
        rintro _ w16 ⟨A26, c26, rfl, _, hb16⟩
        have hB16 := bstep hB15 hb16
        replace hI9 := hI9.keep hb16
        clear hb16 hB15
        go_wp2_with fail
        refine (window_at _ 2000001 1 nw2 _).mono ?_
        rintro _ w17 ⟨A28, c28, rfl, _, hb17⟩
        have hB17 := bstep hB16 hb17
        replace hI9 := hI9.keep hb17
        clear hb17 hB16
        go_wp2_with fail
        refine (window_at _ 0 257 nw3 _).mono ?_
        rintro _ w18 ⟨A30, c30, rfl, _, hb18⟩
        have hB18 := bstep hB17 hb18
        replace hI9 := hI9.keep hb18
        clear hb18 hB17
        go_wp2_with fail
        refine (window_at _ 0 (-1) nw4 _).mono ?_
        rintro _ w19 ⟨A32, c32, rfl, _, hb19⟩
        have hB19 := bstep hB18 hb19
        replace hI9 := hI9.keep hb19
        clear hb19 hB18
        obtain ⟨z0, z1⟩ := hI9.zero
        have z2 := hI9.lt
        go_wp2_with fail
        refine (align_at _ none _ 0 1 0 1 [] [(0, [])] 0 0 1 na1 rfl rfl (by omega) (by omega) (by simp) (by simp) _ RB.nil z1).mono ?_
        rintro _ w20 ⟨A34, c34, A35, c35, rfl, _, _, hb20⟩
        have hB20 := bstep hB19 hb20
        clear hb20 hB19 hI9 z0 z1 z2
        go_wp2_with fail
        refine (align_at _ none none 0 0 0 0 [] [] 65 0 1 na2 rfl rfl (by omega) (by omega) (by simp) (by simp) _ RB.nil RB.nil).mono ?_
        rintro _ w21 ⟨A37, c37, A38, c38, rfl, _, _, hb21⟩
        have hB21 := bstep hB20 hb21
        clear hb21 hB20
        go_wp2_with fail
        refine (align_at _ none none 0 0 0 0 [] [] 0 0 (-1) na3 rfl rfl (by omega) (by omega) (by simp) (by simp) _ RB.nil RB.nil).mono ?_
        rintro _ w22 ⟨A40, c40, A41, c41, rfl, _, _, hb22⟩
        have hB22 := bstep hB21 hb22
        clear hb22 hB21
        go_wp2_with fail
        refine (given14 _).mono ?_
        rintro _ w23 ⟨X1, k1, rfl, rx1, _, hb23⟩
        have hB23 := bstep hB22 hb23
        clear hb23 hB22
        go_wp2_with fail
        refine (given14 _).mono ?_
        rintro _ w24 ⟨X2, k2, rfl, rx2, _, hb24⟩
        have hB24 := bstep hB23 hb24
        replace rx1 := rx1.keep hb24
        clear hb24 hB23
        go_wp2_with fail
        refine (align_at _ X1 X2 k1 k2 2 2 _ _ 5 (-1) 4 na4 rfl rfl (by omega) (by omega) (by simp) (by simp) _ rx1 rx2).mono ?_
        rintro _ w25 ⟨A43, c43, A44, c44, rfl, ra, rb, hb25⟩
        have hB25 := bstep hB24 hb25
        clear hb25 hB24 rx1 rx2
        go_wp2_with fail
        refine (put_at 1 0 none 0 0 [] 1000000 [0] _ 1 1 nr6 rfl rfl (by omega) (by omega) (Nat.le_refl _) (by simp) _ RB.nil (RI_lit' (t := 3) [0] _ rfl (Blk.newAt _ _ (by simp)) rfl)).mono ?_
        rintro _ w26 ⟨⟨A46, c46, rfl⟩, hb26⟩
        have hB26 := bstep (balloc hB25 _) hb26
        replace ra := (ra.keep (balloc (Below.refl _ _) _)).keep hb26
        replace rb := (rb.keep (balloc (Below.refl _ _) _)).keep hb26
        clear hb26 hB25
        go_wp2_with fail
        refine (alive14 _).mono ?_
        rintro _ w27 ⟨rfl, hb27⟩
        have hB27 := bstep hB26 hb27
        replace ra := ra.keep hb27
        replace rb := rb.keep hb27
        clear hb27 hB26
        go_wp2_with fail
        refine (low_of (same13_any _ _ _ _ [0, 1, 0, 0] [0, 1, 0, 0] _ (ra.keep (balloc (Below.refl _ _) _)) (RI_lit' (t := 3) [0, 1, 0, 0] _ rfl (Blk.newAt _ _ (by simp)) rfl) (by decide) (by decide))).mono ?_
        rintro _ w28 ⟨rfl, hb28⟩
        have hB28 := bstep (balloc hB27 _) hb28
        replace rb := (rb.keep (balloc (Below.refl _ _) _)).keep hb28
        clear hb28 hB27
        go_wp2_with fail
        refine (low_of (same13_any _ _ _ _ [0, 3, 0, 0] [0, 3, 0, 0] _ (rb.keep (balloc (Below.refl _ _) _)) (RI_lit' (t := 3) [0, 3, 0, 0] _ rfl (Blk.newAt _ _ (by simp)) rfl) (by decide) (by decide))).mono ?_
        rintro _ w29 ⟨rfl, hb29⟩
        go_wp2
        go_ret
        exact ⟨rfl, bstep (balloc hB28 _) hb29⟩
end Go.Proofs.Ytbejkfeloffccaa
