/-
  Layer 12 (bank), contracts: banks, alike, Two, Great, Same, SameStreams, Samples, Streams.
-/
import Derived.Test.YtnhjeelcgfobnaaBkB
namespace Go.Proofs.Ytnhjeelcgfobnaa
open Go.RowKit Num
set_option maxRecDepth 8000
set_option linter.unusedVariables false
set_option linter.unusedSimpArgs false
namespace Bk
open Lol

abbrev Arg := Option Addr × Nat × List (List Int)
def encG (x : Arg) : Value := .slice x.1 x.2.2.length x.2.1
def firstB (p : Int) : List Arg → Int
  | [] => 0
  | x :: r => if bankE p x.2.2 ≠ 0 then bankE p x.2.2 else firstB p r
theorem firstB_step {p : Int} {l : List Arg} {k : Nat} (hk : k < l.length) : firstB p (l.drop k) = if bankE p l[k].2.2 ≠ 0 then bankE p l[k].2.2 else firstB p (l.drop (k + 1)) := by
  rw [List.drop_eq_getElem_cons hk, firstB]
noncomputable def banksE (p : Int) (l : List Arg) : Int := if modE p ≠ 0 then 2 else firstB p l
noncomputable def twoB (p : Int) (a b : List (List Int)) : Int := if bothE12 p a ≠ 0 then bothE12 p a else bankE p b
theorem banks_any (p : Int) (l : List Arg) (g : Nat) (t : TypeId) (n c : Nat) (hn : l.length = n) (hn2 : n ≤ 10) (w : World) (hp1 : -9223372036854775808 ≤ p) (hp2 : p ≤ 9223372036854775807) (hk : Blk w g t (l.map encG).toArray) (hx : ∀ k (h : k < l.length), RLL .i64 w l[k].1 l[k].2.2) :
    Calls Try.prog 36 #[.int .i64 p, .slice (some ⟨g, 0, none⟩) n c] w fun e w' => e = .returned (.int .i64 (banksE p l)) ∧ Below w.heap.size w w' := by
  rcases mod_cases p with ⟨e0, _, P, rfl, h7, h2, _⟩ | e0
  · have c0 : (modE (P : Int) != 0) = false := by rw [e0]; rfl
    have HE := Lib.hid (show banksE (P : Int) l = firstB P l by unfold banksE; rw [if_neg (by simp [e0])])
    have HX := Lib.hid hx
    clear e0 hx
    go_enter Try.func36, Try.ntmps36
    go_wp2_with fail
    refine (modulus_any _ _ hp1 hp2).mono ?_
    rintro _ w1 ⟨rfl, hb1⟩
    have hk1 := hk.keep hb1
    have hl1 := hk1.lt
    go_wp2
    go_loopg [16] n (fun gk i wr => ∃ k : Nat, k + gk = n ∧ i = .int .i64 k ∧ Below w1.heap.size w1 wr ∧ Hid (firstB (P : Int) l = firstB (P : Int) (l.drop k)))
    case atStart => exact ⟨0, by omega, rfl, Below.refl _ _, Lib.hid (by rw [List.drop_zero])⟩
    case round =>
      obtain ⟨k, hk, rfl, hb, HF⟩ := hrel
      have hk' : k ≤ n := by omega
      have HK := Lib.hid hk
      have HN := Lib.hid hn
      clear hk hn
      have hkr := hk1.keep hb
      have hlr := hkr.lt
      by_cases hlt : k < n
      · have hkl : k < l.length := by rw [HN.out]; exact hlt
        have q0 : wr.cell? ⟨g, k, none⟩ = some (.slice l[k].1 l[k].2.2.length l[k].2.1) := by
          rw [hkr.cell]
          simp [List.getElem?_eq_getElem hkl, encG]
        have HS := Lib.hid (firstB_step (p := (P : Int)) hkl)
        have HC := check_any P l[k].1 l[k].2.1 l[k].2.2 wr h7 h2 ((HX.out k hkl).keep (bstep hb1 hb))
        generalize l[k] = x at *
        by_cases h0 : bankE (P : Int) x.2.2 = 0
        · have d1 : (bankE (P : Int) x.2.2 != 0) = false := by rw [h0]; rfl
          have HE2 := Lib.hid (show firstB (P : Int) l = firstB (P : Int) (l.drop (k + 1)) by rw [HF.out, HS.out, if_neg (by simp [h0])])
          clear h0
          go_wp2_with fail
          refine (HC).mono ?_
          rintro _ w2 ⟨rfl, hb2⟩
          go_wp2
          go_roundg (gk - 1)
          case rel => exact ⟨k + 1, by have := HK.out; omega, by go_num, bstep hb hb2, HE2⟩
          case measure => have := HK.out; omega
        · have d1 : (bankE (P : Int) x.2.2 != 0) = true := by rw [bne_iff_ne]; exact h0
          have HE2 := Lib.hid (show firstB (P : Int) l = bankE (P : Int) x.2.2 by rw [HF.out, HS.out, if_pos h0])
          clear h0
          go_wp2_with fail
          refine (HC).mono ?_
          rintro _ w2 ⟨rfl, hb2⟩
          go_wp2
          go_ret
          exact ⟨ret_int (HE.out.trans HE2.out).symm, bstep hb1 (bstep hb hb2)⟩
      · have HE2 := Lib.hid (show firstB (P : Int) l = 0 by rw [HF.out, List.drop_of_length_le (by rw [HN.out]; omega)]; rfl)
        go_wp2
        go_ret
        exact ⟨ret_int (HE.out.trans HE2.out).symm, bstep hb1 hb⟩
  · have c0 : (modE p != 0) = true := by rw [e0]; rfl
    have HE := Lib.hid (show banksE p l = modE p by unfold banksE; rw [if_pos (by simp [e0]), e0])
    clear e0
    go_enter Try.func36, Try.ntmps36
    go_wp2_with fail
    refine (modulus_any _ _ hp1 hp2).mono ?_
    rintro _ w1 ⟨rfl, hb1⟩
    go_wp2
    go_ret
    exact ⟨ret_int HE.out.symm, hb1⟩
theorem banks1_any (p : Int) (A : Option Addr) (c : Nat) (b : List (List Int)) (g : Nat) (t : TypeId) (w : World) (hp1 : -9223372036854775808 ≤ p) (hp2 : p ≤ 9223372036854775807) (hk : Blk w g t #[.slice A b.length c]) (hx : RLL .i64 w A b) :
    Calls Try.prog 36 #[.int .i64 p, .slice (some ⟨g, 0, none⟩) 1 1] w fun e w' => e = .returned (.int .i64 (bothE12 p b)) ∧ Below w.heap.size w w' := by
  refine (banks_any p [(A, c, b)] g t 1 1 rfl (by omega) w hp1 hp2 hk (fun k h => by
    match k, h with
    | 0, _ => exact hx
    | k + 1, h => simp at h)).mono ?_
  rintro e w' ⟨rfl, hb⟩
  refine ⟨ret_int ?_, hb⟩
  unfold bothE12 banksE
  split
  · rfl
  · rw [firstB]
    simp only
    split
    · rfl
    · rename_i h
      simp only [ne_eq, Decidable.not_not] at h
      rw [h]; rfl
theorem banks2_any (p : Int) (A B : Option Addr) (c d : Nat) (a b : List (List Int)) (g : Nat) (t : TypeId) (w : World) (hp1 : -9223372036854775808 ≤ p) (hp2 : p ≤ 9223372036854775807) (hk : Blk w g t #[.slice A a.length c, .slice B b.length d]) (hx : RLL .i64 w A a) (hy : RLL .i64 w B b) :
    Calls Try.prog 36 #[.int .i64 p, .slice (some ⟨g, 0, none⟩) 2 2] w fun e w' => e = .returned (.int .i64 (twoB p a b)) ∧ Below w.heap.size w w' := by
  refine (banks_any p [(A, c, a), (B, d, b)] g t 2 2 rfl (by omega) w hp1 hp2 hk (fun k h => by
    match k, h with
    | 0, _ => exact hx
    | 1, _ => exact hy
    | k + 2, h => simp at h; omega)).mono ?_
  rintro e w' ⟨rfl, hb⟩
  refine ⟨ret_int ?_, hb⟩
  unfold twoB banksE
  by_cases h0 : modE p = 0
  · have e1 : bothE12 p a = bankE p a := by unfold bothE12; rw [if_neg (by simp [h0])]
    rw [if_neg (by simp [h0]), e1]
    by_cases h1 : bankE p a = 0
    · by_cases h2 : bankE p b = 0
      · simp [firstB, h1, h2]
      · simp [firstB, h1, h2]
    · simp [firstB, h1]
  · have e1 : bothE12 p a = 2 := by unfold bothE12; rw [if_pos h0]
    rw [if_pos h0, e1, if_pos (by decide)]
theorem alike_any (p : Int) (A B : Option Addr) (c d : Nat) (a b : List (List Int)) (w : World) (hp1 : -9223372036854775808 ≤ p) (hp2 : p ≤ 9223372036854775807) (hx : RLL .i64 w A a) (hy : RLL .i64 w B b) :
    Calls Try.prog 32 #[.int .i64 p, .slice A a.length c, .slice B b.length d] w fun e w' => e = .returned (.int .i64 (twoE p a b)) ∧ Below w.heap.size w w' := by
  have hB := balloc (Below.refl w.heap.size w) (.cells #[.slice A a.length c, .slice B b.length d] 22)
  have HC := Lib.hid (fun g w hk hx hy => banks2_any p A B c d a b g 22 w hp1 hp2 hk hx hy)
  generalize hE0 : twoB p a b = E at *
  unfold twoB at hE0
  by_cases h0 : E = 0
  · subst h0
    have HT : Hid (twoE p a b = if a.length ≠ b.length ∨ wid a ≠ wid b then 2 else 0) := Lib.hid (by
      unfold twoE
      by_cases h1 : bothE12 p a = 0
      · rw [if_neg (by simp [h1])] at hE0 ⊢
        rw [if_neg (by simp [hE0])]
      · rw [if_pos h1] at hE0; exact absurd hE0 h1)
    clear hE0
    by_cases h1 : a.length = b.length
    · have d1 : ((a.length : Int) != (b.length : Int)) = false := by simp [h1]
      have HL := Lib.hid h1
      clear h1
      by_cases h2 : wid a = wid b
      · have d2 : ((wid a : Int) != (wid b : Int)) = false := by simp [h2]
        have HE := Lib.hid (show twoE p a b = 0 by rw [HT.out, if_neg (by simp [HL.out, h2])])
        clear h2
        go_enter Try.func32, Try.ntmps32
        go_wp2_with fail
        refine (HC.out _ _ (Blk.new _ _ _) (hx.keep hB) (hy.keep hB)).mono ?_
        rintro _ w1 ⟨rfl, hb1⟩
        go_wp2_with fail
        refine (width_any A c a _ ((hx.keep hB).keep hb1)).mono ?_
        rintro _ _ ⟨rfl, rfl⟩
        go_wp2_with fail
        refine (width_any B d b _ ((hy.keep hB).keep hb1)).mono ?_
        rintro _ _ ⟨rfl, rfl⟩
        go_wp2
        go_ret
        exact ⟨ret_int HE.out.symm, bstep hB hb1⟩
      · have d2 : ((wid a : Int) != (wid b : Int)) = true := by rw [bne_iff_ne]; omega
        have HE := Lib.hid (show twoE p a b = 2 by rw [HT.out, if_pos (.inr h2)])
        clear h2
        go_enter Try.func32, Try.ntmps32
        go_wp2_with fail
        refine (HC.out _ _ (Blk.new _ _ _) (hx.keep hB) (hy.keep hB)).mono ?_
        rintro _ w1 ⟨rfl, hb1⟩
        go_wp2_with fail
        refine (width_any A c a _ ((hx.keep hB).keep hb1)).mono ?_
        rintro _ _ ⟨rfl, rfl⟩
        go_wp2_with fail
        refine (width_any B d b _ ((hy.keep hB).keep hb1)).mono ?_
        rintro _ _ ⟨rfl, rfl⟩
        go_wp2
        go_ret
        exact ⟨ret_int HE.out.symm, bstep hB hb1⟩
    · have d1 : ((a.length : Int) != (b.length : Int)) = true := by rw [bne_iff_ne]; omega
      have HE := Lib.hid (show twoE p a b = 2 by rw [HT.out, if_pos (.inl h1)])
      clear h1
      go_enter Try.func32, Try.ntmps32
      go_wp2_with fail
      refine (HC.out _ _ (Blk.new _ _ _) (hx.keep hB) (hy.keep hB)).mono ?_
      rintro _ w1 ⟨rfl, hb1⟩
      go_wp2
      go_ret
      exact ⟨ret_int HE.out.symm, bstep hB hb1⟩
  · have c0 : (E != 0) = true := by rw [bne_iff_ne]; exact h0
    have HE : Hid (twoE p a b = E) := Lib.hid (by
      unfold twoE
      by_cases h1 : bothE12 p a = 0
      · rw [if_neg (by simp [h1])] at hE0 ⊢
        rw [if_pos (by rw [hE0]; exact h0), hE0]
      · rw [if_pos h1] at hE0 ⊢
        exact hE0)
    clear hE0 h0
    go_enter Try.func32, Try.ntmps32
    go_wp2_with fail
    refine (HC.out _ _ (Blk.new _ _ _) (hx.keep hB) (hy.keep hB)).mono ?_
    rintro _ w1 ⟨rfl, hb1⟩
    go_wp2
    go_ret
    exact ⟨ret_int HE.out.symm, bstep hB hb1⟩
end Bk
end Go.Proofs.Ytnhjeelcgfobnaa
