/-
  Contracts: Convolve (the program's and the reference's), fringeref11.Both.
-/
import Derived.Test.YtdcacklochaljaaFouF
namespace Go.Proofs.Ytdcacklochaljaa
open Go.RowKit Num
set_option linter.unusedVariables false

def cvU (P : Nat) (a b : List Int) (i j : Nat) (st : List Int) : List Int := st.set ((i + j) % a.length) ((st.getD ((i + j) % a.length) 0 + a.getD i 0 * b.getD j 0) % (P : Int))
def cvJ (P : Nat) (a b : List Int) (i : Nat) : Nat → List Int → List Int
  | 0, st => st
  | j + 1, st => cvU P a b i j (cvJ P a b i j st)
def cvI (P : Nat) (a b : List Int) : Nat → List Int
  | 0 => List.replicate a.length 0
  | i + 1 => cvJ P a b i b.length (cvI P a b i)
def cvL (P : Nat) (a b : List Int) : List Int := cvI P a b a.length
def InP (P : Nat) (l : List Int) : Prop := ∀ j, j < l.length → 0 ≤ l.getD j 0 ∧ l.getD j 0 < P
theorem cvU_len (P : Nat) (a b : List Int) (i j : Nat) (st : List Int) : (cvU P a b i j st).length = st.length := by simp [cvU]
theorem cvJ_len (P : Nat) (a b : List Int) (i j : Nat) (st : List Int) : (cvJ P a b i j st).length = st.length := by
  induction j with
  | zero => rfl
  | succ j ih => show (cvU P a b i j (cvJ P a b i j st)).length = _; rw [cvU_len, ih]
theorem cvI_len (P : Nat) (a b : List Int) (i : Nat) : (cvI P a b i).length = a.length := by
  induction i with
  | zero => simp [cvI]
  | succ i ih => show (cvJ P a b i b.length (cvI P a b i)).length = _; rw [cvJ_len, ih]
theorem set_InP {P : Nat} {l : List Int} {k : Nat} {x : Int} (h : InP P l) (hx : 0 ≤ x ∧ x < P) : InP P (l.set k x) := by
  intro j hj
  have hj' : j < l.length := by simpa using hj
  rw [getD_lt _ _ hj, List.getElem_set]
  by_cases e : k = j
  · rw [if_pos e]; exact hx
  · rw [if_neg e, ← getD_lt _ 0 hj']; exact h j hj'
theorem cvU_InP {P : Nat} (hP : 0 < P) {a b : List Int} {i j : Nat} {st : List Int} (h : InP P st) : InP P (cvU P a b i j st) :=
  set_InP h ⟨Int.emod_nonneg _ (by omega), Int.emod_lt_of_pos _ (by omega)⟩
theorem cvJ_InP {P : Nat} (hP : 0 < P) {a b : List Int} {i j : Nat} {st : List Int} (h : InP P st) : InP P (cvJ P a b i j st) := by
  induction j with
  | zero => exact h
  | succ j ih => exact cvU_InP hP ih
theorem cvI_InP {P : Nat} (hP : 0 < P) {a b : List Int} (i : Nat) : InP P (cvI P a b i) := by
  induction i with
  | zero => intro j hj; have : j < a.length := by simpa [cvI] using hj
            rw [getD_lt _ _ hj]; simp [cvI]; omega
  | succ i ih => exact cvJ_InP hP ih
noncomputable def cvS (p : Int) (a b : List Int) : List Int × Int :=
  if chkL p a = 0 then (if chkL p b = 0 then (if a.length = b.length then (cvL p.toNat a b, 0) else ([], 2)) else ([], chkL p b)) else ([], chkL p a)

set_option maxHeartbeats 2000000 in
theorem conv_any (p : Int) (A B : Option Addr) (c d : Nat) (a b : List Int) (w : World) (hx : RI .i64 w A a) (hy : RI .i64 w B b) (hl : a.length ≤ 9223372036854775807) (hl2 : b.length ≤ 9223372036854775807) (hp1 : -9223372036854775808 ≤ p) (hp2 : p ≤ 9223372036854775807) :
    Calls Try.prog 24 #[.int .i64 p, .slice A a.length c, .slice B b.length d] w (RetFE w (cvS p a b)) := by
  rcases chkL_cases p a with ⟨e0, P, rfl, hFA⟩ | e0
  · have c0 : (chkL (P : Int) a != 0) = false := by rw [e0]; rfl
    rcases chkL_cases (P : Int) b with ⟨e1, P', eP, hFB⟩ | e1
    · obtain rfl : P = P' := by omega
      have c1 : (chkL (P : Int) b != 0) = false := by rw [e1]; rfl
      have h1 := hFA.l1
      have h2 := hFA.l64
      have h3 := hFA.pr.1
      have h4 := hFA.le
      have h5 := hFB.l64
      have HFA := Lib.hid hFA
      have HFB := Lib.hid hFB
      clear hFA hFB eP
      by_cases hlen : a.length = b.length
      · have c2 : ((a.length : Int) != (b.length : Int)) = false := by rw [hlen]; simp
        have HS := Lib.hid (show cvS (P : Int) a b = (cvL P a b, 0) by unfold cvS; rw [if_pos e0, if_pos e1, if_pos hlen]; rfl)
        clear hlen e0 e1
        obtain ⟨i0, hi0, hz0, hz1, hz2⟩ := info_int64
        go_enter Try.func24, Try.ntmps24
        go_wp2_with fail
        refine (chkF_any _ _ _ _ _ hx hl (by omega) (by omega)).mono ?_
        rintro _ w1 ⟨rfl, hb1⟩
        go_wp2_with fail
        refine (chkF_any _ _ _ _ _ (hy.keep hb1) hl2 (by omega) (by omega)).mono ?_
        rintro _ w2 ⟨rfl, hb2⟩
        have hB2 := bstep hb1 hb2
        have ra := hx.keep hB2
        have rb := hy.keep hB2
        clear hb1 hb2
        have hmk := mk_row (P := Try.prog) 22 2 Try.underlying22 hi0 hz0 hz1 hz2 (encI .i64) (encI_len .i64) (by omega) 0 rfl a.length (by omega) (by omega)
        go_wp2
        go_loopg [38] a.length (fun gk i wr => ∃ k : Nat, k + gk = a.length ∧ i = .int .i64 k ∧ Blk wr w2.heap.size 2 ((cvI P a b k).flatMap (encI .i64)).toArray ∧ Below w2.heap.size w2 wr)
        case atStart => exact ⟨0, by omega, rfl, Blk.new w2 2 _, balloc (Below.refl _ _) _⟩
        case round =>
          obtain ⟨k, hk, rfl, hO, hb⟩ := hrel
          have hk' : k ≤ a.length := by omega
          have HK := Lib.hid hk
          clear hk hmk
          by_cases hlt : k < a.length
          · obtain ⟨b1, off1, rfl, hlw1, hc1⟩ := (ra.keep hb).at2 hlt
            have bx := HFA.out.el k hlt
            have HIP := Lib.hid (cvI_InP (P := P) (by omega) (a := a) (b := b) k)
            have hsl := cvI_len P a b k
            have HST := Lib.hid (show cvI P a b (k + 1) = cvJ P a b k b.length (cvI P a b k) from rfl)
            generalize cvI P a b k = st at *
            obtain ⟨X, hX⟩ : ∃ X, X = a.getD k 0 := ⟨_, rfl⟩
            rw [← hX] at hc1 bx
            have HX := Lib.hid hX
            clear hX
            obtain ⟨gu, hgu⟩ : ∃ gu, gu = gk := ⟨gk, rfl⟩
            have HGU := Lib.hid hgu
            clear hgu
            go_wp2
            go_loopg [45] b.length (fun gk i wr => ∃ j : Nat, j + gk = b.length ∧ i = .int .i64 j ∧ Blk wr w2.heap.size 2 ((cvJ P a b k j st).flatMap (encI .i64)).toArray ∧ Below w2.heap.size w2 wr)
            case atStart => exact ⟨0, by omega, rfl, hO, hb⟩
            case round =>
              obtain ⟨j, hj, rfl, hO2, hb2⟩ := hrel
              have hj' : j ≤ b.length := by omega
              have HJ := Lib.hid hj
              clear hj
              by_cases hlt2 : j < b.length
              · obtain ⟨b2, off2, rfl, hlw2, hc2⟩ := (rb.keep hb2).at2 hlt2
                obtain ⟨b1', off1', e1', hlw1', hc1'⟩ := (ra.keep hb2).at2 hlt
                obtain ⟨rfl, rfl⟩ : b1 = b1' ∧ off1 = off1' := by injection e1' with e1'; injection e1' with e3 e4; exact ⟨e3, e4⟩
                rw [← HX.out] at hc1'
                clear e1'
                have by' := HFB.out.el j hlt2
                have hm : (k + j) % a.length < a.length := Nat.mod_lt _ (by omega)
                have hcl : (cvJ P a b k j st).length = a.length := by rw [cvJ_len]; exact hsl
                have o0 := blkI_at hO2 (j := (k + j) % a.length) (by rw [hcl]; exact hm)
                have of0 := hO2.frozen ((k + j) % a.length)
                have hgl := hO2.lt
                have bz := (cvJ_InP (P := P) (by omega) (a := a) (b := b) (i := k) (j := j) HIP.out) ((k + j) % a.length) (by rw [hcl]; exact hm)
                have HN := Lib.hid (show cvJ P a b k (j + 1) st = (cvJ P a b k j st).set ((k + j) % a.length) (((cvJ P a b k j st).getD ((k + j) % a.length) 0 + a.getD k 0 * b.getD j 0) % (P : Int)) from rfl)
                have HI2 := Lib.hid (blkI_set hO2 (j := (k + j) % a.length) (by rw [hcl]; exact hm) (((cvJ P a b k j st).getD ((k + j) % a.length) 0 + a.getD k 0 * b.getD j 0) % (P : Int)))
                rw [← HX.out] at HN HI2
                generalize b.getD j 0 = Y at *
                generalize (cvJ P a b k j st).getD ((k + j) % a.length) 0 = V at *
                obtain ⟨m, hM⟩ : ∃ m, m = (k + j) % a.length := ⟨_, rfl⟩
                rw [← hM] at HN HI2 o0 of0 hm
                have hM2 : ((k : Int) + (j : Int)) % (a.length : Int) = (m : Int) := by rw [← Int.natCast_add, ← Int.natCast_emod, hM]
                clear hM
                have fm := fit_mul (s := V) h4 bx by'
                obtain ⟨Z, hZ⟩ : ∃ Z, Z = X * Y := ⟨_, rfl⟩
                have hw2 : IntKind.i64.wrap (X * Y) = Z := by rw [IntWalk.i64_in _ (by omega), hZ]
                rw [← hZ] at HN HI2 fm
                clear hZ
                go_wp2
                all_goals
                  go_roundg (gk - 1)
                  case rel => exact ⟨j + 1, by have := HJ.out; omega, by go_num, by rw [HN.out]; exact HI2.out, by first | exact hb2.setCell (p := ⟨w2.heap.size, m, none⟩) (Nat.le_refl _) _ | exact (hb2.setCell (p := ⟨w2.heap.size, m, none⟩) (Nat.le_refl _) _).drew⟩
                  case measure => have := HJ.out; omega
              · have HO3 : Hid (Blk wr w2.heap.size 2 ((cvI P a b (k + 1)).flatMap (encI .i64)).toArray) := Lib.hid (by rw [HST.out]; rw [show j = b.length by omega] at hO2; exact hO2)
                go_wp2
                go_roundg (gu - 1)
                case rel => exact ⟨k + 1, by have := HK.out; have := HGU.out; omega, by go_num, HO3.out, hb2⟩
                case measure => have := HK.out; have := HGU.out; omega
          · rw [show k = a.length by omega] at hO
            go_wp2
            go_ret2
            exact RetFE.own HS.out (cvI_len P a b a.length) (blk_RI hO) (bstep hB2 hb)
      · have c2 : ((a.length : Int) != (b.length : Int)) = true := by rw [bne_iff_ne]; omega
        have HS := Lib.hid (show cvS (P : Int) a b = ([], 2) by unfold cvS; rw [if_pos e0, if_pos e1, if_neg hlen])
        clear hlen e0 e1
        go_enter Try.func24, Try.ntmps24
        go_wp2_with fail
        refine (chkF_any _ _ _ _ _ hx hl (by omega) (by omega)).mono ?_
        rintro _ w1 ⟨rfl, hb1⟩
        go_wp2_with fail
        refine (chkF_any _ _ _ _ _ (hy.keep hb1) hl2 (by omega) (by omega)).mono ?_
        rintro _ w2 ⟨rfl, hb2⟩
        go_wp2
        go_ret2
        exact RetFE.no HS.out (bstep hb1 hb2)
    · have c1 : (chkL (P : Int) b != 0) = true := by rw [bne_iff_ne]; exact e1
      have HS := Lib.hid (show cvS (P : Int) a b = ([], chkL (P : Int) b) by unfold cvS; rw [if_pos e0, if_neg e1])
      clear e0 e1
      go_enter Try.func24, Try.ntmps24
      go_wp2_with fail
      refine (chkF_any _ _ _ _ _ hx hl hp1 hp2).mono ?_
      rintro _ w1 ⟨rfl, hb1⟩
      go_wp2_with fail
      refine (chkF_any _ _ _ _ _ (hy.keep hb1) hl2 hp1 hp2).mono ?_
      rintro _ w2 ⟨rfl, hb2⟩
      go_wp2
      go_ret2
      exact RetFE.no HS.out (bstep hb1 hb2)
  · have c0 : (chkL p a != 0) = true := by rw [bne_iff_ne]; exact e0
    have HS := Lib.hid (show cvS p a b = ([], chkL p a) by unfold cvS; rw [if_neg e0])
    clear e0
    go_enter Try.func24, Try.ntmps24
    go_wp2_with fail
    refine (chkF_any _ _ _ _ _ hx hl hp1 hp2).mono ?_
    rintro _ w1 ⟨rfl, hb1⟩
    go_wp2
    go_ret2
    exact RetFE.no HS.out hb1
noncomputable def bothL (p : Int) (a b : List Int) : Int := if chkL p a = 0 then chkL p b else chkL p a
theorem both11_any (p : Int) (A B : Option Addr) (c d : Nat) (a b : List Int) (w : World) (hx : RI .i64 w A a) (hy : RI .i64 w B b) (hl : a.length ≤ 9223372036854775807) (hl2 : b.length ≤ 9223372036854775807) (hp1 : -9223372036854775808 ≤ p) (hp2 : p ≤ 9223372036854775807) :
    Calls Try.prog 43 #[.int .i64 p, .slice A a.length c, .slice B b.length d] w fun e w' => e = .returned (.int .i64 (bothL p a b)) ∧ Below w.heap.size w w' := by
  by_cases e0 : chkL p a = 0
  · have c0 : (chkL p a != 0) = false := by rw [e0]; rfl
    have HS := Lib.hid (show bothL p a b = chkL p b by unfold bothL; rw [if_pos e0])
    clear e0
    go_enter Try.func43, Try.ntmps43
    go_wp2_with fail
    refine (refChk_any _ _ _ _ _ hx hl hp1 hp2).mono ?_
    rintro _ w1 ⟨rfl, hb1⟩
    go_wp2_with fail
    refine (refChk_any _ _ _ _ _ (hy.keep hb1) hl2 hp1 hp2).mono ?_
    rintro _ w2 ⟨rfl, hb2⟩
    go_wp2
    go_ret
    exact ⟨ret_int HS.out.symm, bstep hb1 hb2⟩
  · have c0 : (chkL p a != 0) = true := by rw [bne_iff_ne]; exact e0
    have HS := Lib.hid (show bothL p a b = chkL p a by unfold bothL; rw [if_neg e0])
    clear e0
    go_enter Try.func43, Try.ntmps43
    go_wp2_with fail
    refine (refChk_any _ _ _ _ _ hx hl hp1 hp2).mono ?_
    rintro _ w1 ⟨rfl, hb1⟩
    go_wp2_with fail
    refine (refChk_any _ _ _ _ _ (hx.keep hb1) hl hp1 hp2).mono ?_
    rintro _ w2 ⟨rfl, hb2⟩
    go_wp2
    go_ret
    exact ⟨ret_int HS.out.symm, bstep hb1 hb2⟩
set_option maxHeartbeats 2000000 in
theorem refConv_any (p : Int) (A B : Option Addr) (c d : Nat) (a b : List Int) (w : World) (hx : RI .i64 w A a) (hy : RI .i64 w B b) (hl : a.length ≤ 9223372036854775807) (hl2 : b.length ≤ 9223372036854775807) (hp1 : -9223372036854775808 ≤ p) (hp2 : p ≤ 9223372036854775807) :
    Calls Try.prog 25 #[.int .i64 p, .slice A a.length c, .slice B b.length d] w (RetFE w (cvS p a b)) := by
  by_cases eb : bothL p a b = 0
  · have e0 : chkL p a = 0 := by unfold bothL at eb; by_cases h : chkL p a = 0; exact h; rw [if_neg h] at eb; exact eb
    have e1 : chkL p b = 0 := by unfold bothL at eb; rw [if_pos e0] at eb; exact eb
    have c0 : (bothL p a b != 0) = false := by rw [eb]; rfl
    obtain ⟨P, rfl, hFA⟩ : ∃ P : Nat, p = P ∧ Fit P a := (chkL_cases p a).elim (fun h => h.2) (fun h => absurd e0 h)
    obtain ⟨P', eP, hFB⟩ : ∃ P' : Nat, (P : Int) = P' ∧ Fit P' b := (chkL_cases (P : Int) b).elim (fun h => h.2) (fun h => absurd e1 h)
    obtain rfl : P = P' := by omega
    have h1 := hFA.l1
    have h2 := hFA.l64
    have h3 := hFA.pr.1
    have h4 := hFA.le
    have h5 := hFB.l64
    have HFA := Lib.hid hFA
    have HFB := Lib.hid hFB
    clear hFA hFB eP eb
    by_cases hlen : a.length = b.length
    · have c2 : ((a.length : Int) != (b.length : Int)) = false := by rw [hlen]; simp
      have HS := Lib.hid (show cvS (P : Int) a b = (cvL P a b, 0) by unfold cvS; rw [if_pos e0, if_pos e1, if_pos hlen]; rfl)
      clear hlen e0 e1
      obtain ⟨i0, hi0, hz0, hz1, hz2⟩ := info_int64
      go_enter Try.func25, Try.ntmps25
      go_wp2_with fail
      refine (both11_any _ _ _ _ _ _ _ _ hx hy hl hl2 (by omega) (by omega)).mono ?_
      rintro _ w2 ⟨rfl, hB2⟩
      have ra := hx.keep hB2
      have rb := hy.keep hB2
      have hmk := mk_row (P := Try.prog) 22 2 Try.underlying22 hi0 hz0 hz1 hz2 (encI .i64) (encI_len .i64) (by omega) 0 rfl a.length (by omega) (by omega)
      go_wp2
      go_loopg [9] a.length (fun gk i wr => ∃ k : Nat, k + gk = a.length ∧ i = .int .i64 k ∧ Blk wr w2.heap.size 2 ((cvI P a b k).flatMap (encI .i64)).toArray ∧ Below w2.heap.size w2 wr)
      case atStart => exact ⟨0, by omega, rfl, Blk.new w2 2 _, balloc (Below.refl _ _) _⟩
      case round =>
        obtain ⟨k, hk, rfl, hO, hb⟩ := hrel
        have hk' : k ≤ a.length := by omega
        have HK := Lib.hid hk
        clear hk hmk
        by_cases hlt : k < a.length
        · obtain ⟨b1, off1, rfl, hlw1, hc1⟩ := (ra.keep hb).at2 hlt
          have bx := HFA.out.el k hlt
          have HIP := Lib.hid (cvI_InP (P := P) (by omega) (a := a) (b := b) k)
          have hsl := cvI_len P a b k
          have HST := Lib.hid (show cvI P a b (k + 1) = cvJ P a b k b.length (cvI P a b k) from rfl)
          generalize cvI P a b k = st at *
          obtain ⟨X, hX⟩ : ∃ X, X = a.getD k 0 := ⟨_, rfl⟩
          rw [← hX] at hc1 bx
          have HX := Lib.hid hX
          clear hX
          obtain ⟨gu, hgu⟩ : ∃ gu, gu = gk := ⟨gk, rfl⟩
          have HGU := Lib.hid hgu
          clear hgu
          go_wp2
          go_loopg [10] b.length (fun gk i wr => ∃ j : Nat, j + gk = b.length ∧ i = .int .i64 j ∧ Blk wr w2.heap.size 2 ((cvJ P a b k j st).flatMap (encI .i64)).toArray ∧ Below w2.heap.size w2 wr)
          case atStart => exact ⟨0, by omega, rfl, hO, hb⟩
          case round =>
            obtain ⟨j, hj, rfl, hO2, hb2⟩ := hrel
            have hj' : j ≤ b.length := by omega
            have HJ := Lib.hid hj
            clear hj
            by_cases hlt2 : j < b.length
            · obtain ⟨b2, off2, rfl, hlw2, hc2⟩ := (rb.keep hb2).at2 hlt2
              obtain ⟨b1', off1', e1', hlw1', hc1'⟩ := (ra.keep hb2).at2 hlt
              obtain ⟨rfl, rfl⟩ : b1 = b1' ∧ off1 = off1' := by injection e1' with e1'; injection e1' with e3 e4; exact ⟨e3, e4⟩
              rw [← HX.out] at hc1'
              clear e1'
              have by' := HFB.out.el j hlt2
              have hm : (k + j) % a.length < a.length := Nat.mod_lt _ (by omega)
              have hcl : (cvJ P a b k j st).length = a.length := by rw [cvJ_len]; exact hsl
              have o0 := blkI_at hO2 (j := (k + j) % a.length) (by rw [hcl]; exact hm)
              have of0 := hO2.frozen ((k + j) % a.length)
              have hgl := hO2.lt
              have bz := (cvJ_InP (P := P) (by omega) (a := a) (b := b) (i := k) (j := j) HIP.out) ((k + j) % a.length) (by rw [hcl]; exact hm)
              have HN := Lib.hid (show cvJ P a b k (j + 1) st = (cvJ P a b k j st).set ((k + j) % a.length) (((cvJ P a b k j st).getD ((k + j) % a.length) 0 + a.getD k 0 * b.getD j 0) % (P : Int)) from rfl)
              have HI2 := Lib.hid (blkI_set hO2 (j := (k + j) % a.length) (by rw [hcl]; exact hm) (((cvJ P a b k j st).getD ((k + j) % a.length) 0 + a.getD k 0 * b.getD j 0) % (P : Int)))
              rw [← HX.out] at HN HI2
              generalize b.getD j 0 = Y at *
              generalize (cvJ P a b k j st).getD ((k + j) % a.length) 0 = V at *
              obtain ⟨m, hM⟩ : ∃ m, m = (k + j) % a.length := ⟨_, rfl⟩
              rw [← hM] at HN HI2 o0 of0 hm
              have hM2 : ((k : Int) + (j : Int)) % (a.length : Int) = (m : Int) := by rw [← Int.natCast_add, ← Int.natCast_emod, hM]
              clear hM
              have fm := fit_mul (s := V) h4 bx by'
              obtain ⟨Z, hZ⟩ : ∃ Z, Z = X * Y := ⟨_, rfl⟩
              have hw2 : IntKind.i64.wrap (X * Y) = Z := by rw [IntWalk.i64_in _ (by omega), hZ]
              rw [← hZ] at HN HI2 fm
              clear hZ
              (go_wp2; all_goals go_region; all_goals go_wp2)
              all_goals
                go_roundg (gk - 1)
                case rel => exact ⟨j + 1, by have := HJ.out; omega, by go_num, by rw [HN.out]; exact HI2.out, by first | exact hb2.setCell (p := ⟨w2.heap.size, m, none⟩) (Nat.le_refl _) _ | exact (hb2.setCell (p := ⟨w2.heap.size, m, none⟩) (Nat.le_refl _) _).drew⟩
                case measure => have := HJ.out; omega
            · have HO3 : Hid (Blk wr w2.heap.size 2 ((cvI P a b (k + 1)).flatMap (encI .i64)).toArray) := Lib.hid (by rw [HST.out]; rw [show j = b.length by omega] at hO2; exact hO2)
              go_wp2
              go_roundg (gu - 1)
              case rel => exact ⟨k + 1, by have := HK.out; have := HGU.out; omega, by go_num, HO3.out, hb2⟩
              case measure => have := HK.out; have := HGU.out; omega
        · rw [show k = a.length by omega] at hO
          go_wp2
          go_ret2
          exact RetFE.own HS.out (cvI_len P a b a.length) (blk_RI hO) (bstep hB2 hb)
    · have c2 : ((a.length : Int) != (b.length : Int)) = true := by rw [bne_iff_ne]; omega
      have HS := Lib.hid (show cvS (P : Int) a b = ([], 2) by unfold cvS; rw [if_pos e0, if_pos e1, if_neg hlen])
      clear hlen e0 e1
      go_enter Try.func25, Try.ntmps25
      go_wp2_with fail
      refine (both11_any _ _ _ _ _ _ _ _ hx hy hl hl2 (by omega) (by omega)).mono ?_
      rintro _ w2 ⟨rfl, hB2⟩
      go_wp2
      go_ret2
      exact RetFE.no HS.out hB2
  · have c0 : (bothL p a b != 0) = true := by rw [bne_iff_ne]; exact eb
    have HS := Lib.hid (show cvS p a b = ([], bothL p a b) by
      unfold cvS bothL
      by_cases h : chkL p a = 0
      · rw [if_pos h, if_pos h]
        unfold bothL at eb
        rw [if_pos h] at eb
        rw [if_neg eb]
      · rw [if_neg h, if_neg h])
    clear eb
    go_enter Try.func25, Try.ntmps25
    go_wp2_with fail
    refine (both11_any _ _ _ _ _ _ _ _ hx hy hl hl2 hp1 hp2).mono ?_
    rintro _ w1 ⟨rfl, hb1⟩
    go_wp2_with fail
    refine (both11_any _ _ _ _ _ _ _ _ (hx.keep hb1) (hy.keep hb1) hl hl2 hp1 hp2).mono ?_
    rintro _ w2 ⟨rfl, hb2⟩
    go_wp2
    go_ret2
    exact RetFE.no HS.out (bstep hb1 hb2)
end Go.Proofs.Ytdcacklochaljaa
