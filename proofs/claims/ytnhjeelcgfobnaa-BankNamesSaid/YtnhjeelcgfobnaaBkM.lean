/-
  Layer 12 (bank): what Split and Merge compute; contracts of Samples, Streams, Same, SameStreams, Great.
-/
import Derived.Test.YtnhjeelcgfobnaaBkL
import Derived.Test.YtnhjeelcgfobnaaPFouN
namespace Go.Proofs.Ytnhjeelcgfobnaa
open Go.RowKit Num
set_option maxRecDepth 8000
set_option linter.unusedVariables false
set_option linter.unusedSimpArgs false
namespace Bk
open Lol Crs

def badS (x : Int) : Bool := decide (x < -3 ∨ 3 < x)
theorem badS_no {x : Int} (h : -3 ≤ x ∧ x ≤ 3) : badS x = false := by unfold badS; rw [decide_eq_false_iff_not]; omega
theorem badS_yes {x : Int} (h : x < -3 ∨ 3 < x) : badS x = true := by unfold badS; rw [decide_eq_true_eq]; exact h
theorem any_badS {s : List Int} : s.any badS = false ↔ ∀ j, j < s.length → -3 ≤ s.getD j 0 ∧ s.getD j 0 ≤ 3 := by
  rw [List.any_eq_false]
  constructor
  · intro h j hj
    have := h _ (List.getElem_mem hj)
    rw [getD_lt _ _ hj]
    unfold badS at this
    simp only [decide_eq_true_eq] at this
    omega
  · intro h x hx
    obtain ⟨j, hj, e⟩ := List.getElem_of_mem hx
    have := h j hj
    rw [getD_lt _ _ hj, e] at this
    simp [badS_no this]
theorem any_badS_at {s : List Int} {j : Nat} (hj : j < s.length) (h : badS (s.getD j 0) = true) : s.any badS = true :=
  List.any_eq_true.2 ⟨s[j], List.getElem_mem hj, by rw [getD_lt _ _ hj] at h; exact h⟩
noncomputable def strE (p n : Int) (s : List Int) : Int :=
  if modE p ≠ 0 then 2 else if n < 1 ∨ 16 < n ∨ 256 < s.length then 4 else if (p - 1) % n ≠ 0 then 6 else if s.any badS = true then 8 else if (s.length : Int) % n ≠ 0 then 22 else 0
/-- A stream of samples that can be split. -/
structure Strm (P n : Nat) (s : List Int) : Prop where
  h7 : 7 ≤ P
  le : P ≤ 2000000000
  pr : Pr P
  n1 : 1 ≤ n
  n16 : n ≤ 16
  len : s.length ≤ 256
  dv : (P - 1) % n = 0
  el : ∀ j, j < s.length → -3 ≤ s.getD j 0 ∧ s.getD j 0 ≤ 3
  ln : s.length % n = 0
theorem Strm.ok {P n : Nat} {s : List Int} (h : Strm P n s) : Ok P n := ⟨h.pr, h.le, h.n1, by have := h.n16; omega, h.dv⟩
theorem str_zero {p n : Int} {s : List Int} (h : strE p n s = 0) : ∃ P N : Nat, p = P ∧ n = N ∧ Strm P N s := by
  unfold strE at h
  rcases mod_cases p with ⟨e, _, P, rfl, h7, h2, hP⟩ | e
  · rw [if_neg (by simp [e])] at h
    split at h
    · omega
    · rename_i h3
      split at h
      · omega
      · rename_i h4
        split at h
        · omega
        · rename_i h5
          split at h
          · omega
          · rename_i h6
            obtain ⟨N, rfl⟩ := Int.eq_ofNat_of_zero_le (show 0 ≤ n by omega)
            have e1 := rem_mod (P := P) (n := N) (by omega)
            refine ⟨P, N, rfl, rfl, h7, h2, hP, by omega, by omega, by omega, by omega, any_badS.1 (by simpa using h5), by omega⟩
  · rw [if_pos (by simp [e])] at h
    omega
theorem modE_pr {P : Nat} (h7 : 7 ≤ P) (h2 : P ≤ 2000000000) (hP : Pr P) : modE (P : Int) = 0 := by
  unfold modE
  rw [if_neg (by omega)]
  unfold chkE
  rw [if_pos (okP_iff.2 ⟨P, rfl, by omega, h2, hP⟩)]
theorem str_ok {P n : Nat} {s : List Int} (h : Strm P n s) : strE (P : Int) (n : Int) s = 0 := by
  have e1 := rem_mod (P := P) (n := n) (by have := h.h7; omega)
  have h1 := h.n1
  have h2 := h.n16
  have h3 := h.len
  have h4 := h.dv
  have h5 := h.ln
  unfold strE
  rw [if_neg (by simp [modE_pr h.h7 h.le h.pr]), if_neg (by omega), if_neg (by omega), if_neg (by simp [any_badS.2 h.el]), if_neg (by omega)]
/-- Sample k of block t. -/
def smp (n : Nat) (s : List Int) (t k : Nat) : Int := s.getD (t * n + k) 0
noncomputable def spF (P n : Nat) (s : List Int) (t : Nat) : List Int := fwdL P (resL P n (smp n s t))
noncomputable def splitL (P n : Nat) (s : List Int) : List (List Int) := fullL (spF P n s) (s.length / n)
noncomputable def splitS (p n : Int) (s : List Int) : List (List Int) × Int := if strE p n s ≠ 0 then ([], strE p n s) else (splitL p.toNat n.toNat s, 0)
noncomputable def mrR (P : Nat) (l : List Int) : List Int := fullL (sgF P (bkL P l)) l.length
noncomputable def mrgL (P : Nat) (b : List (List Int)) : List Int := b.flatMap (mrR P)
noncomputable def mergeS (p : Int) (b : List (List Int)) : List Int × Int :=
  if bothE12 p b ≠ 0 then ([], bothE12 p b) else if 256 < b.length * wid b then ([], 4) else if (mrgL p.toNat b).any badS = true then ([], 16) else (mrgL p.toNat b, 0)
theorem spF_len (P n : Nat) (s : List Int) (t : Nat) : (spF P n s t).length = n := by unfold spF; rw [fwdL_len, resL_len]
theorem splitL_len (P n : Nat) (s : List Int) : (splitL P n s).length = s.length / n := fullL_len _ _
theorem mrR_len (P : Nat) (l : List Int) : (mrR P l).length = l.length := fullL_len _ _
/-! ### contracts -/
theorem samples_any (A : Option Addr) (c : Nat) (s : List Int) (w : World) (hl : s.length ≤ 1000) (hx : RI .i64 w A s) :
    Calls Try.prog 31 #[.slice A s.length c] w fun e w' => e = .returned (.bool (!s.any badS)) ∧ w = w' := by
  go_enter Try.func31, Try.ntmps31
  go_wp2
  go_loopg [3] s.length (fun gk i wr => ∃ k : Nat, k + gk = s.length ∧ i = .int .i64 k ∧ wr = w ∧ Hid (∀ j, j < k → -3 ≤ s.getD j 0 ∧ s.getD j 0 ≤ 3))
  case atStart => exact ⟨0, by omega, rfl, rfl, Lib.hid (by intro j hj; omega)⟩
  case round =>
    obtain ⟨k, hk, rfl, rfl, HA⟩ := hrel
    have hk' : k ≤ s.length := by omega
    have HK := Lib.hid hk
    clear hk
    by_cases hlt : k < s.length
    · obtain ⟨b1, off1, rfl, hlw1, hc1⟩ := hx.at2 hlt
      have HB := Lib.hid (fun h : s.getD k 0 < -3 ∨ 3 < s.getD k 0 => any_badS_at hlt (badS_yes h))
      have HG := Lib.hid (fun h : -3 ≤ s.getD k 0 ∧ s.getD k 0 ≤ 3 => all_lt_succ HA.out h)
      generalize s.getD k 0 = x at *
      rcases (show x < -3 ∨ (-3 ≤ x ∧ 3 < x) ∨ (-3 ≤ x ∧ x ≤ 3) by omega) with h | ⟨h, h'⟩ | ⟨h, h'⟩
      · have d1 : decide (x < -3) = true := decide_eq_true h
        have HE := Lib.hid (HB.out (.inl h))
        go_wp2
        go_ret
        exact ⟨ret_bool (by rw [HE.out]; rfl), rfl⟩
      · have d1 : decide (x < -3) = false := decide_eq_false (by omega)
        have d2 : decide (3 < x) = true := decide_eq_true h'
        have HE := Lib.hid (HB.out (.inr h'))
        go_wp2
        go_ret
        exact ⟨ret_bool (by rw [HE.out]; rfl), rfl⟩
      · have d1 : decide (x < -3) = false := decide_eq_false (by omega)
        have d2 : decide (3 < x) = false := decide_eq_false (by omega)
        have HE := Lib.hid (HG.out ⟨h, h'⟩)
        go_wp2
        go_roundg (gk - 1)
        case rel => exact ⟨k + 1, by have := HK.out; omega, by go_num, rfl, HE⟩
        case measure => have := HK.out; omega
    · have HE := Lib.hid (any_badS.2 (fun j hj => HA.out j (by omega)))
      go_wp2
      go_ret
      exact ⟨ret_bool (by rw [HE.out]; rfl), rfl⟩
theorem refStreams_any (p n : Int) (A : Option Addr) (c : Nat) (s : List Int) (w : World) (hp1 : -9223372036854775808 ≤ p) (hp2 : p ≤ 9223372036854775807) (hx : RI .i64 w A s) :
    Calls Try.prog 45 #[.int .i64 p, .int .i64 n, .slice A s.length c] w fun e w' => e = .returned (.int .i64 (strE p n s)) ∧ Below w.heap.size w w' := by
  have HSM := Lib.hid (fun w hl hx => samples_any A c s w hl hx)
  rcases mod_cases p with ⟨e0, _, P, rfl, h7, h2, hP⟩ | e0
  · have c0 : (modE (P : Int) != 0) = false := by rw [e0]; rfl
    have HT : Hid (strE P n s = if n < 1 ∨ 16 < n ∨ 256 < s.length then 4 else if ((P : Int) - 1) % n ≠ 0 then 6 else if s.any badS = true then 8 else if (s.length : Int) % n ≠ 0 then 22 else 0) := Lib.hid (by unfold strE; rw [if_neg (by simp [e0])])
    clear e0 hP
    rcases (show n < 1 ∨ (1 ≤ n ∧ 16 < n) ∨ (1 ≤ n ∧ n ≤ 16) by omega) with h | ⟨h, h'⟩ | ⟨h, h'⟩
    · have d1 : decide (n < 1) = true := decide_eq_true h
      have HE : Hid (strE P n s = 4) := Lib.hid (by rw [HT.out, if_pos (.inl h)])
      go_enter Try.func45, Try.ntmps45
      go_wp2_with fail
      refine (refModulus_any _ _ hp1 hp2).mono ?_
      rintro _ w1 ⟨rfl, hb1⟩
      go_wp2
      go_ret
      exact ⟨ret_int HE.out.symm, hb1⟩
    · have d1 : decide (n < 1) = false := decide_eq_false (by omega)
      have d2 : decide (16 < n) = true := decide_eq_true h'
      have HE : Hid (strE P n s = 4) := Lib.hid (by rw [HT.out, if_pos (.inr (.inl h'))])
      go_enter Try.func45, Try.ntmps45
      go_wp2_with fail
      refine (refModulus_any _ _ hp1 hp2).mono ?_
      rintro _ w1 ⟨rfl, hb1⟩
      go_wp2
      go_ret
      exact ⟨ret_int HE.out.symm, hb1⟩
    · obtain ⟨N, rfl⟩ := Int.eq_ofNat_of_zero_le (show 0 ≤ n by omega)
      have d1 : decide ((N : Int) < 1) = false := decide_eq_false (by omega)
      have d2 : decide (16 < (N : Int)) = false := decide_eq_false (by omega)
      have d2' : decide (16 < N) = false := decide_eq_false (by omega)
      have d1' : decide (N < 1) = false := decide_eq_false (by omega)
      by_cases hl : 256 < s.length
      · have d3 : decide (256 < s.length) = true := decide_eq_true hl
        have d3' : decide (256 < (s.length : Int)) = true := decide_eq_true (by omega)
        have HE : Hid (strE P N s = 4) := Lib.hid (by rw [HT.out, if_pos (.inr (.inr hl))])
        clear hl
        go_enter Try.func45, Try.ntmps45
        go_wp2_with fail
        refine (refModulus_any _ _ hp1 hp2).mono ?_
        rintro _ w1 ⟨rfl, hb1⟩
        go_wp2
        go_ret
        exact ⟨ret_int HE.out.symm, hb1⟩
      · have d3 : decide (256 < s.length) = false := decide_eq_false hl
        have d3' : decide (256 < (s.length : Int)) = false := decide_eq_false (by omega)
        have hl1000 : s.length ≤ 1000 := by omega
        have g0 : IntKind.i64.wrap ((P : Int) - 1) = ((P - 1 : Nat) : Int) := by rw [IntWalk.i64_in _ (by omega)]; omega
        have hz1 : ((N : Int) == 0) = false := by rw [beq_eq_false_iff_ne]; omega
        have HR := Lib.hid (rem_mod (P := P) (n := N) (by omega))
        have HT2 : Hid (strE P N s = if ((P : Int) - 1) % (N : Int) ≠ 0 then 6 else if s.any badS = true then 8 else if (s.length : Int) % (N : Int) ≠ 0 then 22 else 0) := Lib.hid (by rw [HT.out, if_neg (by omega)])
        have HL := Lib.hid hl
        clear hl HT
        by_cases hd : (P - 1) % N = 0
        · have f1 : ((((P - 1) % N : Nat) : Int) != 0) = false := by rw [hd]; rfl
          have HT3 : Hid (strE P N s = if s.any badS = true then 8 else if (s.length : Int) % (N : Int) ≠ 0 then 22 else 0) := Lib.hid (by rw [HT2.out, if_neg (by rw [← HR.out, hd]; simp)])
          clear hd HT2
          cases hb : s.any badS
          · rw [hb] at HSM HT3
            have HT4 : Hid (strE P N s = if (s.length : Int) % (N : Int) ≠ 0 then 22 else 0) := Lib.hid (by rw [HT3.out]; rfl)
            clear HT3 hb
            have HM := Lib.hid (Int.natCast_emod s.length N)
            by_cases hm : s.length % N = 0
            · have f2 : (((s.length % N : Nat) : Int) != 0) = false := by rw [hm]; rfl
              have HE : Hid (strE P N s = 0) := Lib.hid (by rw [HT4.out, if_neg (by rw [← HM.out, hm]; simp)])
              clear hm
              go_enter Try.func45, Try.ntmps45
              go_wp2_with fail
              refine (refModulus_any _ _ hp1 hp2).mono ?_
              rintro _ w1 ⟨rfl, hb1⟩
              go_wp2_with fail
              refine (HSM.out _ hl1000 (hx.keep hb1)).mono ?_
              rintro _ _ ⟨rfl, rfl⟩
              go_wp2
              go_ret
              exact ⟨ret_int HE.out.symm, hb1⟩
            · have f2 : (((s.length % N : Nat) : Int) != 0) = true := by rw [bne_iff_ne]; omega
              have HE : Hid (strE P N s = 22) := Lib.hid (by rw [HT4.out, if_pos (by rw [← HM.out]; omega)])
              clear hm
              go_enter Try.func45, Try.ntmps45
              go_wp2_with fail
              refine (refModulus_any _ _ hp1 hp2).mono ?_
              rintro _ w1 ⟨rfl, hb1⟩
              go_wp2_with fail
              refine (HSM.out _ hl1000 (hx.keep hb1)).mono ?_
              rintro _ _ ⟨rfl, rfl⟩
              go_wp2
              go_ret
              exact ⟨ret_int HE.out.symm, hb1⟩
          · rw [hb] at HSM HT3
            have HE : Hid (strE P N s = 8) := Lib.hid (by rw [HT3.out]; rfl)
            clear hb
            go_enter Try.func45, Try.ntmps45
            go_wp2_with fail
            refine (refModulus_any _ _ hp1 hp2).mono ?_
            rintro _ w1 ⟨rfl, hb1⟩
            go_wp2_with fail
            refine (HSM.out _ hl1000 (hx.keep hb1)).mono ?_
            rintro _ _ ⟨rfl, rfl⟩
            go_wp2
            go_ret
            exact ⟨ret_int HE.out.symm, hb1⟩
        · have f1 : ((((P - 1) % N : Nat) : Int) != 0) = true := by rw [bne_iff_ne]; omega
          have HE : Hid (strE P N s = 6) := Lib.hid (by rw [HT2.out, if_pos (by rw [← HR.out]; omega)])
          clear hd
          go_enter Try.func45, Try.ntmps45
          go_wp2_with fail
          refine (refModulus_any _ _ hp1 hp2).mono ?_
          rintro _ w1 ⟨rfl, hb1⟩
          go_wp2
          go_ret
          exact ⟨ret_int HE.out.symm, hb1⟩
  · have c0 : (modE p != 0) = true := by rw [e0]; rfl
    have HE : Hid (strE p n s = 2) := Lib.hid (by unfold strE; rw [if_pos (by simp [e0])])
    clear e0
    go_enter Try.func45, Try.ntmps45
    go_wp2_with fail
    refine (refModulus_any _ _ hp1 hp2).mono ?_
    rintro _ w1 ⟨rfl, hb1⟩
    go_wp2
    go_ret
    exact ⟨ret_int HE.out.symm, hb1⟩
/-! ### comparisons -/
theorem q_draws {P : Program} {f : FuncId} {args : Array Value} {w : World} {a n : Nat} {v : Value}
    (h : Calls P f args ((w.drewN a).drewN n) fun e w' => e = .returned v ∧ ∃ m, w' = ((w.drewN a).drewN n).drewN m) :
    Calls P f args (w.drewN (a + n)) fun e w'' => e = .returned v ∧ ∃ m, w'' = w.drewN (a + m) := by
  rw [← World.drewN_drewN]
  exact h.mono fun _ _ ⟨he, m, hm⟩ => ⟨he, n + m, by rw [hm]; simp only [World.drewN_drewN, Nat.add_assoc]⟩
theorem lol_ne {L M : List (List Int)} {k : Nat} (h : k < L.length) (h2 : k < M.length) (hn : ¬ L[k] = M[k]) : decide (L = M) = false := by
  rw [decide_eq_false_iff_not]
  rintro rfl
  exact hn rfl
theorem lol_eq {L M : List (List Int)} (hl : L.length = M.length) (h : ∀ j, j < L.length → L.getD j [] = M.getD j []) : L = M := by
  refine List.ext_getElem hl fun j h1 h2 => ?_
  have := h j h1
  simpa [List.getD_eq_getElem?_getD, h1, h2] using this
def Small (L : List (List Int)) : Prop := L.length ≤ 140737488355328 ∧ ∀ l ∈ L, l.length ≤ 140737488355328
set_option maxHeartbeats 4000000 in
theorem same12_any (A B : Option Addr) (c d : Nat) (L M : List (List Int)) (w : World) (hx : RLL .i64 w A L) (hy : RLL .i64 w B M) (hL : Small L) (hM : Small M) :
    Calls Try.prog 17 #[.slice A L.length c, .slice B M.length d] w fun e w' => e = .returned (.bool (decide (L = M))) ∧ ∃ n, w' = w.drewN n := by
  have hl := hL.1
  have hl2 := hM.1
  have HALL := Lib.hid (And.intro hL.2 hM.2)
  clear hL hM
  by_cases hlen : L.length = M.length
  · have h2 : ((L.length : Int) != M.length) = false := by simp; omega
    have hle : L.length ≤ M.length := by omega
    have HL := Lib.hid hlen
    clear hlen
    go_enter Try.func17, Try.ntmps17
    go_wp2
    go_loopg [5] L.length (fun gk i wr => ∃ k n : Nat, k + gk = L.length ∧ i = .int .i64 k ∧ wr = w.drewN n ∧ Hid (∀ j, j < k → L.getD j [] = M.getD j []))
    case atStart => exact ⟨0, 0, by omega, rfl, rfl, Lib.hid (by simp)⟩
    case round =>
      obtain ⟨k, n, hk, rfl, rfl, hall⟩ := hrel
      have hk' : k ≤ L.length := by omega
      have HK := Lib.hid hk
      clear hk
      by_cases hlt : k < L.length
      · have hlt2 := Nat.lt_of_lt_of_le hlt hle
        obtain ⟨b1, off1, A1, c1, rfl, _, hc1, hr, _⟩ := hx.at_ hlt
        obtain ⟨b2, off2, A2, c2, rfl, _, hd1, hr', _⟩ := hy.at_ hlt2
        have hn1 := HALL.out.1 _ (List.getElem_mem hlt)
        have hn2 := HALL.out.2 _ (List.getElem_mem hlt2)
        have hS := fun m => same10_any A1 A2 c1 c2 L[k] M[k] ((w.drewN n).drewN m) (hr.keep (below_drewN (below_drewN (Below.refl _ _) _) _)) (hr'.keep (below_drewN (below_drewN (Below.refl _ _) _) _)) hn1 hn2
        by_cases hs : L[k] = M[k]
        · have ds : decide (L[k] = M[k]) = true := decide_eq_true hs
          have HV : Hid (L[k] = M[k]) := Lib.hid hs
          clear hs
          go_wp2
          go_quiet ((go_at_call 18; exact q_draws (hS _)))
          go_wp2
          go_roundg (gk - 1)
          case rel => exact ⟨k + 1, _, by have := HK.out; omega, by go_num, rfl, Lib.hid (all_lt_succ hall.out (by simpa [List.getD_eq_getElem?_getD, hlt, hlt2] using HV.out))⟩
          case measure => have := HK.out; omega
        · have ds : decide (L[k] = M[k]) = false := decide_eq_false hs
          have HV := Lib.hid (lol_ne hlt hlt2 hs)
          clear hs
          go_wp2
          go_quiet ((go_at_call 18; exact q_draws (hS _)))
          go_wp2
          go_ret
          refine ⟨ret_bool HV.out.symm, ?_⟩
          simp only [World.drewN_drewN]
          exact ⟨_, rfl⟩
      · go_wp2
        go_ret
        refine ⟨ret_bool ?_, _, rfl⟩
        symm
        rw [decide_eq_true_eq]
        exact lol_eq HL.out (fun j hj => hall.out j (by omega))
  · have h2 : ((L.length : Int) != M.length) = true := by simp; omega
    go_enter Try.func17, Try.ntmps17
    go_wp2
    go_ret
    exact ⟨ret_bool (by symm; simp; intro h; exact hlen (by rw [h])), 0, rfl⟩
theorem sameStreams_any (A B : Option Addr) (c d : Nat) (xs ys : List Int) (w : World) (hx : RI .i64 w A xs) (hy : RI .i64 w B ys) (hl : xs.length ≤ 140737488355328) (hl2 : ys.length ≤ 140737488355328) :
    Calls Try.prog 26 #[.slice A xs.length c, .slice B ys.length d] w fun e w' => e = .returned (.bool (decide (xs = ys))) ∧ ∃ n, w' = w.drewN n := by
  by_cases hlen : xs.length = ys.length
  · have h2 : ((xs.length : Int) != ys.length) = false := by simp; omega
    have hle : xs.length ≤ ys.length := by omega
    have HL := Lib.hid hlen
    clear hlen
    go_enter Try.func26, Try.ntmps26
    go_wp2
    go_loopw [5] (fun i wr => ∃ k n : Nat, k ≤ xs.length ∧ i = .int .i64 k ∧ wr = w.drewN n ∧ Hid (∀ j, j < k → xs.getD j 0 = ys.getD j 0)) (fun i _ => xs.length - (intOf i).toNat)
    case atStart => exact ⟨0, 0, Nat.zero_le _, rfl, rfl, Lib.hid (by simp)⟩
    case round =>
      obtain ⟨k, n, hk, rfl, rfl, hall⟩ := hrel
      by_cases hlt : k < xs.length
      · obtain ⟨b, off, rfl, hc⟩ := hx.at_ hlt
        have hlt2 := Nat.lt_of_lt_of_le hlt hle
        obtain ⟨b2, off2, rfl, hc2⟩ := hy.at_ hlt2
        go_wp2
        go_quiet (fail)
        go_wp2
        · have hv : (xs[k] != ys[k]) = true := by assumption
          go_ret
          refine ⟨ret_bool (list_ne_of_getD (k := k) ?_).symm, n + nq, by first | rfl | rw [World.drewN_drewN]⟩
          simpa [List.getD_eq_getElem?_getD, hlt, hlt2] using hv
        · have hv : (xs[k] != ys[k]) = false := by assumption
          go_roundw
          case rel => exact ⟨k + 1, _, by omega, by go_num, rfl, Lib.hid (all_lt_succ hall.out (by simpa [List.getD_eq_getElem?_getD, hlt, hlt2] using hv))⟩
          case measure => simp [intOf]; omega
      · go_wp2
        go_ret
        refine ⟨ret_bool ?_, _, rfl⟩
        symm
        rw [decide_eq_true_eq]
        exact list_eq_of_getD HL.out (fun j hj => hall.out j (by omega))
  · have h2 : ((xs.length : Int) != ys.length) = true := by simp; omega
    go_enter Try.func26, Try.ntmps26
    go_wp2
    go_ret
    exact ⟨ret_bool (by symm; simp; intro h; exact hlen (by rw [h])), 0, rfl⟩
/-! ### limits -/
def greatB (b : List (List Int)) : Bool := (b.take 300).any (fun l => decide (30 < l.length)) || decide ((20 < b.length ∧ b.length ≤ 256) ∨ 300 < b.length)
theorem great_no {b : List (List Int)} (h : greatB b = false) : b.length ≤ 300 ∧ ∀ l ∈ b, l.length ≤ 30 := by
  unfold greatB at h
  rw [Bool.or_eq_false_iff, List.any_eq_false, decide_eq_false_iff_not] at h
  have h1 : b.length ≤ 300 := by omega
  refine ⟨h1, fun l hl => ?_⟩
  have := h.1 l (by rw [List.take_of_length_le h1]; exact hl)
  simp only [decide_eq_true_eq] at this
  omega
theorem take_at {b : List (List Int)} {k : Nat} (h : k < b.length) (h2 : k < 300) : b[k] ∈ b.take 300 := by
  rw [List.mem_iff_getElem]
  exact ⟨k, by rw [List.length_take]; omega, by rw [List.getElem_take]⟩
theorem great_any (A : Option Addr) (c : Nat) (b : List (List Int)) (w : World) (hx : RLL .i64 w A b) :
    Calls Try.prog 10 #[.slice A b.length c] w fun e w' => e = .returned (.bool (greatB b)) ∧ w = w' := by
  go_enter Try.func10, Try.ntmps10
  go_wp2
  go_loopg [3] b.length (fun gk i wr => ∃ k : Nat, k + gk = b.length ∧ k ≤ 300 ∧ i = .int .i64 k ∧ wr = w ∧ Hid (∀ j (hj : j < b.length), j < k → b[j].length ≤ 30))
  case atStart => exact ⟨0, by omega, by omega, rfl, rfl, Lib.hid (by intro j hj h; omega)⟩
  case round =>
    obtain ⟨k, hk, hk3, rfl, rfl, HA⟩ := hrel
    have hk' : k ≤ b.length := by omega
    have HK := Lib.hid hk
    clear hk
    by_cases hlt : k < b.length
    · by_cases h3 : k < 300
      · obtain ⟨b1, off1, A', c', rfl, hlw1, hc1, hr, _⟩ := hx.at_ (i := k) hlt
        have e0 : decide ((k : Int) < 300) = true := decide_eq_true (by omega)
        by_cases hl : 30 < b[k].length
        · have d1 : decide (30 < b[k].length) = true := decide_eq_true hl
          have d1i : decide (30 < (b[k].length : Int)) = true := decide_eq_true (by omega)
          have HE := Lib.hid (show greatB b = true by
            unfold greatB
            rw [List.any_eq_true.2 ⟨b[k], take_at hlt h3, d1⟩]; rfl)
          go_wp2
          go_ret
          exact ⟨ret_bool HE.out.symm, rfl⟩
        · have d1 : decide (30 < b[k].length) = false := decide_eq_false hl
          have d1i : decide (30 < (b[k].length : Int)) = false := decide_eq_false (by omega)
          have HE := Lib.hid (show ∀ j (hj : j < b.length), j < k + 1 → b[j].length ≤ 30 from fun j hj h => by
            rcases Nat.lt_or_ge j k with h1 | h1
            · exact HA.out j hj h1
            · obtain rfl : j = k := by omega
              omega)
          clear hl
          go_wp2
          go_roundg (gk - 1)
          case rel => exact ⟨k + 1, by have := HK.out; omega, by omega, by go_num, rfl, HE⟩
          case measure => have := HK.out; omega
      · have HE := Lib.hid (show greatB b = true by
          unfold greatB
          rw [show decide ((20 < b.length ∧ b.length ≤ 256) ∨ 300 < b.length) = true from decide_eq_true (by omega), Bool.or_true])
        have e3 : k = 300 := by omega
        subst e3
        have d0 : decide (300 < b.length) = true := decide_eq_true hlt
        have d0i : decide (300 < (b.length : Int)) = true := decide_eq_true (by omega)
        have d1 : decide (20 < b.length) = true := decide_eq_true (by omega)
        have d1i : decide (20 < (b.length : Int)) = true := decide_eq_true (by omega)
        have d2 : decide (b.length ≤ 256) = false := decide_eq_false (by omega)
        have d2i : decide ((b.length : Int) ≤ 256) = false := decide_eq_false (by omega)
        go_wp2
        go_ret
        exact ⟨ret_bool HE.out.symm, rfl⟩
    · have HE := Lib.hid (show greatB b = decide ((20 < b.length ∧ b.length ≤ 256) ∨ 300 < b.length) by
        unfold greatB
        rw [List.any_eq_false.2 (fun l hl => by
          obtain ⟨j, hj, e⟩ := List.getElem_of_mem (List.mem_of_mem_take hl)
          have := HA.out j hj (by omega)
          rw [e] at this
          simp only [decide_eq_true_eq]
          omega), Bool.false_or])
      have e3 : k = b.length := by omega
      subst e3
      rcases (show b.length ≤ 20 ∨ (20 < b.length ∧ b.length ≤ 256) ∨ (256 < b.length ∧ b.length ≤ 300) by omega) with h | ⟨h, h'⟩ | ⟨h, h'⟩
      · have d1 : decide (20 < b.length) = false := decide_eq_false (by omega)
        have d1i : decide (20 < (b.length : Int)) = false := decide_eq_false (by omega)
        have d2 : decide (300 < b.length) = false := decide_eq_false (by omega)
        have d2i : decide (300 < (b.length : Int)) = false := decide_eq_false (by omega)
        have HE2 : Hid (greatB b = false) := Lib.hid (by rw [HE.out, decide_eq_false_iff_not]; omega)
        go_wp2
        go_ret
        exact ⟨ret_bool HE2.out.symm, rfl⟩
      · have d1 : decide (20 < b.length) = true := decide_eq_true (by omega)
        have d1i : decide (20 < (b.length : Int)) = true := decide_eq_true (by omega)
        have d2 : decide (b.length ≤ 256) = true := decide_eq_true (by omega)
        have d2i : decide ((b.length : Int) ≤ 256) = true := decide_eq_true (by omega)
        have HE2 : Hid (greatB b = true) := Lib.hid (by rw [HE.out, decide_eq_true_eq]; omega)
        go_wp2
        go_ret
        exact ⟨ret_bool HE2.out.symm, rfl⟩
      · have d1 : decide (20 < b.length) = true := decide_eq_true (by omega)
        have d1i : decide (20 < (b.length : Int)) = true := decide_eq_true (by omega)
        have d2 : decide (b.length ≤ 256) = false := decide_eq_false (by omega)
        have d2i : decide ((b.length : Int) ≤ 256) = false := decide_eq_false (by omega)
        have d3 : decide (300 < b.length) = false := decide_eq_false (by omega)
        have d3i : decide (300 < (b.length : Int)) = false := decide_eq_false (by omega)
        have HE2 : Hid (greatB b = false) := Lib.hid (by rw [HE.out, decide_eq_false_iff_not]; omega)
        go_wp2
        go_ret
        exact ⟨ret_bool HE2.out.symm, rfl⟩
end Bk
end Go.Proofs.Ytnhjeelcgfobnaa
