/-
  Contracts: Convolve (the program's and the reference's), fringeref11.Both.
  Contracts: Turn, Phase, Signed, Reduce of the program.
  Contracts: Turn, Phase, Signed, Center, Reduce of the reference.
  Contract: Phase of the reference.
  Contracts of the program's Forward and Phase that tell where the new row lies.
-/
import Derived.Test.YtnhjeelcgfobnaaPFouD
import Derived.Deep.AppendLies
import Derived.Deep.RegionHeld3
import Derived.Test.YtnhjeelcgfobnaaPAppend
namespace Go.Proofs.Ytnhjeelcgfobnaa
open Go.RowKit Num
set_option maxRecDepth 8000
set_option linter.unusedVariables false

def cvU (P : Nat) (a b : List Int) (i j : Nat) (st : List Int) : List Int := st.set ((i + j) % a.length) ((st.getD ((i + j) % a.length) 0 + a.getD i 0 * b.getD j 0) % (P : Int))
def cvJ (P : Nat) (a b : List Int) (i : Nat) : Nat → List Int → List Int
  | 0, st => st
  | j + 1, st => cvU P a b i j (cvJ P a b i j st)
def cvI (P : Nat) (a b : List Int) : Nat → List Int
  | 0 => List.replicate a.length 0
  | i + 1 => cvJ P a b i b.length (cvI P a b i)
def cvL (P : Nat) (a b : List Int) : List Int := cvI P a b a.length
def InP (P : Nat) (l : List Int) : Prop := ∀ j, j < l.length → 0 ≤ l.getD j 0 ∧ l.getD j 0 < P
theorem cvU_len (P : Nat) (a b : List Int) (i j : Nat) (st : List Int) : (cvU P a b i j st).length = st.length := by simp [cvU]
theorem cvJ_len (P : Nat) (a b : List Int) (i j : Nat) (st : List Int) : (cvJ P a b i j st).length = st.length := by
  induction j with
  | zero => rfl
  | succ j ih => show (cvU P a b i j (cvJ P a b i j st)).length = _; rw [cvU_len, ih]
theorem cvI_len (P : Nat) (a b : List Int) (i : Nat) : (cvI P a b i).length = a.length := by
  induction i with
  | zero => simp [cvI]
  | succ i ih => show (cvJ P a b i b.length (cvI P a b i)).length = _; rw [cvJ_len, ih]
theorem set_InP {P : Nat} {l : List Int} {k : Nat} {x : Int} (h : InP P l) (hx : 0 ≤ x ∧ x < P) : InP P (l.set k x) := by
  intro j hj
  have hj' : j < l.length := by simpa using hj
  rw [getD_lt _ _ hj, List.getElem_set]
  by_cases e : k = j
  · rw [if_pos e]; exact hx
  · rw [if_neg e, ← getD_lt _ 0 hj']; exact h j hj'
theorem cvU_InP {P : Nat} (hP : 0 < P) {a b : List Int} {i j : Nat} {st : List Int} (h : InP P st) : InP P (cvU P a b i j st) :=
  set_InP h ⟨Int.emod_nonneg _ (by omega), Int.emod_lt_of_pos _ (by omega)⟩
theorem cvJ_InP {P : Nat} (hP : 0 < P) {a b : List Int} {i j : Nat} {st : List Int} (h : InP P st) : InP P (cvJ P a b i j st) := by
  induction j with
  | zero => exact h
  | succ j ih => exact cvU_InP hP ih
theorem cvI_InP {P : Nat} (hP : 0 < P) {a b : List Int} (i : Nat) : InP P (cvI P a b i) := by
  induction i with
  | zero => intro j hj; have : j < a.length := by simpa [cvI] using hj
            rw [getD_lt _ _ hj]; simp [cvI]; omega
  | succ i ih => exact cvJ_InP hP ih
noncomputable def cvS (p : Int) (a b : List Int) : List Int × Int :=
  if chkL p a = 0 then (if chkL p b = 0 then (if a.length = b.length then (cvL p.toNat a b, 0) else ([], 2)) else ([], chkL p b)) else ([], chkL p a)

noncomputable def bothL (p : Int) (a b : List Int) : Int := if chkL p a = 0 then chkL p b else chkL p a
end Go.Proofs.Ytnhjeelcgfobnaa
namespace Go.Proofs.Ytnhjeelcgfobnaa
open Go.RowKit Num
set_option maxRecDepth 8000
set_option linter.unusedVariables false

/-- a new slice of numbers, and an error -/
def RetNE (w : World) (r : List Int × Int) (e : Ending) (w' : World) : Prop :=
  ∃ A c, e = .returned (.tuple #[.slice A r.1.length c, .int .i64 r.2]) ∧ RI .i64 w' A r.1 ∧ Below w.heap.size w w' ∧ (r.1 = [] ∨ ∃ g, A = some ⟨g, 0, none⟩ ∧ w.heap.size ≤ g ∧ Blk w' g 2 (r.1.flatMap (encI .i64)).toArray)
theorem RetNE.no {w w' : World} {x : Int} {r : List Int × Int} (hr : r = ([], x)) (hb : Below w.heap.size w w') : RetNE w r (.returned (.tuple #[.slice none 0 0, .int .i64 x])) w' := by
  subst hr; exact ⟨Option.none, 0, rfl, RI.nil, hb, Or.inl rfl⟩
theorem RetNE.blk {w w' : World} {g n : Nat} {l : List Int} {x : Int} {r : List Int × Int} (hr : r = (l, x)) (hn : l.length = n) (hg : w.heap.size ≤ g) (h : Blk w' g 2 (l.flatMap (encI .i64)).toArray) (hb : Below w.heap.size w w') :
    RetNE w r (.returned (.tuple #[.slice (some ⟨g, 0, none⟩) n n, .int .i64 x])) w' := by
  subst hr; subst hn; exact ⟨_, _, rfl, blk_RI h, hb, Or.inr ⟨g, rfl, hg, h⟩⟩

/-! turning -/
def backI (n D m : Nat) : Nat := (m + n - D) % n
theorem backI_lt {n D m : Nat} (h : 1 ≤ n) : backI n D m < n := Nat.mod_lt _ (by omega)
theorem backI_iff {n D m k : Nat} (hD : D < n) (hm : m < n) (hk : k < n) : backI n D m = k ↔ m = (k + D) % n := by
  unfold backI
  by_cases h1 : D ≤ m
  · rw [show m + n - D = (m - D) + n by omega, Nat.add_mod_right, Nat.mod_eq_of_lt (show m - D < n by omega)]
    by_cases h2 : k + D < n
    · rw [Nat.mod_eq_of_lt h2]; omega
    · rw [Nat.mod_eq_sub_mod (by omega), Nat.mod_eq_of_lt (by omega)]; omega
  · rw [Nat.mod_eq_of_lt (show m + n - D < n by omega)]
    by_cases h2 : k + D < n
    · rw [Nat.mod_eq_of_lt h2]; omega
    · rw [Nat.mod_eq_sub_mod (by omega), Nat.mod_eq_of_lt (by omega)]; omega
def tuF (l : List Int) (D m : Nat) : Int := l.getD (backI l.length D m) 0
def tuP (l : List Int) (D k : Nat) : List Int := (List.range l.length).map (fun m => if backI l.length D m < k then tuF l D m else 0)
theorem tuP_len (l : List Int) (D k : Nat) : (tuP l D k).length = l.length := by simp [tuP]
theorem tuP_start (l : List Int) (D : Nat) : tuP l D 0 = List.replicate l.length 0 := by
  apply List.ext_getElem (by simp [tuP])
  intro i h1 h2
  simp [tuP]
theorem tuP_end (l : List Int) (D k : Nat) (h : l.length ≤ k) : tuP l D k = fullL (tuF l D) l.length := by
  apply List.ext_getElem (by simp [tuP, fullL])
  intro i h1 h2
  have hi : i < l.length := by simpa [tuP] using h1
  simp only [tuP, fullL, List.getElem_map, List.getElem_range]
  rw [if_pos (Nat.lt_of_lt_of_le (backI_lt (by omega)) h)]
theorem tuP_step {l : List Int} {D k : Nat} (hD : D < l.length) (hk : k < l.length) : (tuP l D k).set ((k + D) % l.length) (l.getD k 0) = tuP l D (k + 1) := by
  apply List.ext_getElem (by simp [tuP])
  intro i h1 h2
  have hi : i < l.length := by simpa [tuP] using h2
  have hiff := backI_iff hD hi hk
  simp only [tuP, List.getElem_set, List.getElem_map, List.getElem_range]
  by_cases e : (k + D) % l.length = i
  · have e2 := hiff.2 e.symm
    rw [if_pos e, if_pos (by omega)]
    unfold tuF
    rw [e2]
  · have e2 : backI l.length D i ≠ k := fun h => e (hiff.1 h).symm
    rw [if_neg e]
    by_cases h : backI l.length D i < k
    · rw [if_pos h, if_pos (by omega)]
    · rw [if_neg h, if_neg (by omega)]
def rotD (d : Int) (n : Nat) : Nat := (d % (n : Int)).toNat
theorem rotD_lt (d : Int) {n : Nat} (h : 1 ≤ n) : rotD d n < n := by unfold rotD; have := emod_bd d h; omega
theorem rotD_cast (d : Int) {n : Nat} (h : 1 ≤ n) : d % (n : Int) = (rotD d n : Int) := by unfold rotD; have := emod_bd d h; omega
noncomputable def tuS (p : Int) (l : List Int) (d : Int) : List Int × Int := if chkL p l = 0 then (fullL (tuF l (rotD d l.length)) l.length, 0) else ([], chkL p l)


/-! phasing -/
noncomputable def phF (P : Nat) (l : List Int) (D k : Nat) : Int := l.getD k 0 * pwF P (rootN P l.length) (D * k % l.length) % (P : Int)
noncomputable def phS (p : Int) (l : List Int) (d : Int) : List Int × Int := if chkL p l = 0 then (fullL (phF p.toNat l (rotD d l.length)) l.length, 0) else ([], chkL p l)
set_option maxHeartbeats 1000000 in
theorem phase_any (p : Int) (A : Option Addr) (c : Nat) (l : List Int) (d : Int) (w : World) (hx : RI .i64 w A l) (hl : l.length ≤ 9223372036854775807) (hp1 : -9223372036854775808 ≤ p) (hp2 : p ≤ 9223372036854775807) (hd : -9223372036854775808 ≤ d ∧ d ≤ 9223372036854775807) :
    Calls Try.prog 37 #[.int .i64 p, .slice A l.length c, .int .i64 d] w (RetFE w (phS p l d)) := by
  rcases chkL_cases p l with ⟨e0, P, rfl, hF⟩ | e0
  · have c0 : (chkL (P : Int) l != 0) = false := by rw [e0]; rfl
    have HS := Lib.hid (show phS (P : Int) l d = (fullL (phF P l (rotD d l.length)) l.length, 0) by unfold phS; rw [if_pos e0]; rfl)
    have h1 := hF.l1
    have h2 := hF.l64
    have h3 := hF.pr.1
    have h4 := hF.le
    have hlt0 := rootN_lt (P := P) (n := l.length) (by omega)
    have HR := Lib.hid (rootS_fit hF)
    have hC := fun w => ringRoot_any (P : Int) (l.length : Int) w (by omega) (by omega) (by omega)
    simp only [HR.out] at hC
    have HC := Lib.hid hC
    have HF := Lib.hid hF
    clear e0 hF hC
    obtain ⟨i0, hi0, hz0, hz1, hz2⟩ := info_int64
    have hmk := mk_row (P := Try.prog) 31 2 Try.underlying31 hi0 hz0 hz1 hz2 (encI .i64) (encI_len .i64) (by omega) 0 rfl l.length (by omega) (by omega)
    have hD := rotD_lt d h1
    have hW := fun w => within_any d l.length w h1 (by omega) hd
    simp only [rotD_cast d h1] at hW
    have HW := Lib.hid hW
    clear hW
    generalize rotD d l.length = D at *
    have hwl := fullL_len (pwF P (rootN P l.length)) l.length
    go_enter Try.func37, Try.ntmps37
    go_wp2_with fail
    refine (chkF_any _ _ _ _ _ hx hl (by omega) (by omega)).mono ?_
    rintro _ w1 ⟨rfl, hb1⟩
    go_wp2_with fail
    refine (HC.out _).mono ?_
    rintro _ w2 ⟨rfl, hb2⟩
    have hB2 := bstep hb1 hb2
    clear hb1 hb2
    go_wp2_with fail
    refine (HW.out _).mono ?_
    rintro _ _ ⟨rfl, rfl⟩
    go_wp2_with fail
    refine (powers_any P (rootN P l.length) l.length _ h3 h4 hlt0 (by omega)).mono ?_
    rintro _ w3 ⟨g3, rfl, hg3, hk3, hb3⟩
    have r3 := blk_RI hk3
    have hB3 := bstep hB2 hb3
    clear hB2 hb3 hk3
    simp only [hwl]
    go_wp2
    go_loopg [44] l.length (fun gk i wr => ∃ k : Nat, k + gk = l.length ∧ i = .int .i64 k ∧ Blk wr w3.heap.size 2 ((partL (phF P l D) 0 l.length k).flatMap (encI .i64)).toArray ∧ Below w3.heap.size w3 wr)
    case atStart => exact ⟨0, by omega, rfl, by rw [partL_start]; exact Blk.new w3 2 _, balloc (Below.refl _ _) _⟩
    case round =>
      obtain ⟨k, hk, rfl, hO, hb⟩ := hrel
      have hk' : k ≤ l.length := by omega
      have HK := Lib.hid hk
      clear hk hmk
      by_cases hlt : k < l.length
      · obtain ⟨b1, off1, rfl, hlw1, hc1⟩ := ((hx.keep hB3).keep hb).at2 hlt
        have hm : D * k % l.length < l.length := Nat.mod_lt _ (by omega)
        have hdk : D * k ≤ 64 * 64 := Nat.mul_le_mul (by omega) (by omega)
        obtain ⟨b2, off2, e2, hlw2, hc2⟩ := (r3.keep hb).at2 (i := D * k % l.length) (by rw [fullL_len]; exact hm)
        obtain ⟨rfl, rfl⟩ : g3 = b2 ∧ 0 = off2 := by injection e2 with e2; injection e2 with e3 e4; exact ⟨e3, e4⟩
        clear e2
        rw [fullL_getD _ _ _ _ hm, Nat.zero_add] at hc2
        have bx := HF.out.el k hlt
        have by' := pwF_bd (P := P) (R := rootN P l.length) (by omega) (D * k % l.length)
        have o0 := blkI_at hO (j := k) (by rw [partL_len]; exact hlt)
        have of0 := hO.frozen k
        have hgl := hO.lt
        have HN := Lib.hid (show l.getD k 0 * pwF P (rootN P l.length) (D * k % l.length) % (P : Int) = phF P l D k from rfl)
        have hw1 : IntKind.i64.wrap ((D : Int) * (k : Int)) = ((D * k : Nat) : Int) := mul_wrap (by omega) (by omega)
        generalize D * k = jk at *
        generalize hM : jk % l.length = m at *
        have hM2 : (jk : Int) % (l.length : Int) = (m : Int) := by rw [← Int.natCast_emod, hM]
        clear hM
        generalize l.getD k 0 = X at *
        generalize pwF P (rootN P l.length) m = Y at *
        have fm := fit_mul (s := 0) h4 bx by'
        obtain ⟨Z, hZ⟩ : ∃ Z, Z = X * Y := ⟨_, rfl⟩
        have hw2 : IntKind.i64.wrap (X * Y) = Z := by rw [IntWalk.i64_in _ (by omega), hZ]
        rw [← hZ] at HN fm
        clear hZ
        have HM := Lib.hid (partL_set (phF P l D) 0 l.length k (Z % (P : Int)) HN.out)
        go_wp2
        all_goals
          go_roundg (gk - 1)
          case rel => exact ⟨k + 1, by have := HK.out; omega, by go_num, by rw [← HM.out]; exact blkI_set hO (by rw [partL_len]; exact hlt) _, hb.setCell (p := ⟨w3.heap.size, k, none⟩) (Nat.le_refl _) _⟩
          case measure => have := HK.out; omega
      · rw [partL_end _ _ _ _ (by omega)] at hO
        go_wp2
        go_ret2
        exact RetFE.own HS.out (fullL_len _ _) (blk_RI hO) (bstep hB3 hb)
  · have c0 : (chkL p l != 0) = true := by rw [bne_iff_ne]; exact e0
    have HS := Lib.hid (show phS p l d = ([], chkL p l) by unfold phS; rw [if_neg e0])
    clear e0
    go_enter Try.func37, Try.ntmps37
    go_wp2_with fail
    refine (chkF_any _ _ _ _ _ hx hl hp1 hp2).mono ?_
    rintro _ w1 ⟨rfl, hb1⟩
    go_wp2
    go_ret2
    exact RetFE.no HS.out hb1

/-! signed numbers -/
def sgF (P : Nat) (l : List Int) (k : Nat) : Int := if (P : Int) < 2 * l.getD k 0 then l.getD k 0 - P else l.getD k 0
noncomputable def sgS (p : Int) (l : List Int) : List Int × Int := if chkL p l = 0 then (fullL (sgF p.toNat l) l.length, 0) else ([], chkL p l)
set_option maxHeartbeats 1000000 in
theorem signed_any (p : Int) (A : Option Addr) (c : Nat) (l : List Int) (w : World) (hx : RI .i64 w A l) (hl : l.length ≤ 9223372036854775807) (hp1 : -9223372036854775808 ≤ p) (hp2 : p ≤ 9223372036854775807) :
    Calls Try.prog 47 #[.int .i64 p, .slice A l.length c] w (RetFE w (sgS p l)) := by
  rcases chkL_cases p l with ⟨e0, P, rfl, hF⟩ | e0
  · have c0 : (chkL (P : Int) l != 0) = false := by rw [e0]; rfl
    have HS := Lib.hid (show sgS (P : Int) l = (fullL (sgF P l) l.length, 0) by unfold sgS; rw [if_pos e0]; rfl)
    have h1 := hF.l1
    have h2 := hF.l64
    have h4 := hF.le
    have HF := Lib.hid hF
    clear e0 hF
    obtain ⟨i0, hi0, hz0, hz1, hz2⟩ := info_int64
    have hmk := mk_row (P := Try.prog) 31 2 Try.underlying31 hi0 hz0 hz1 hz2 (encI .i64) (encI_len .i64) (by omega) 0 rfl l.length (by omega) (by omega)
    go_enter Try.func47, Try.ntmps47
    go_wp2_with fail
    refine (chkF_any _ _ _ _ _ hx hl (by omega) (by omega)).mono ?_
    rintro _ w1 ⟨rfl, hb1⟩
    go_wp2
    go_loopg [21] l.length (fun gk i wr => ∃ k : Nat, k + gk = l.length ∧ i = .int .i64 k ∧ Blk wr w1.heap.size 2 ((partL (sgF P l) 0 l.length k).flatMap (encI .i64)).toArray ∧ Below w1.heap.size w1 wr)
    case atStart => exact ⟨0, by omega, rfl, by rw [partL_start]; exact Blk.new w1 2 _, balloc (Below.refl _ _) _⟩
    case round =>
      obtain ⟨k, hk, rfl, hO, hb⟩ := hrel
      have hk' : k ≤ l.length := by omega
      have HK := Lib.hid hk
      clear hk hmk
      by_cases hlt : k < l.length
      · obtain ⟨b1, off1, rfl, hlw1, hc1⟩ := ((hx.keep hb1).keep hb).at2 hlt
        have bx := HF.out.el k hlt
        have o0 := blkI_at hO (j := k) (by rw [partL_len]; exact hlt)
        have of0 := hO.frozen k
        have hgl := hO.lt
        have HN := Lib.hid (show sgF P l k = if (P : Int) < 2 * l.getD k 0 then l.getD k 0 - P else l.getD k 0 from rfl)
        generalize l.getD k 0 = X at *
        by_cases h2x : (P : Int) < 2 * X
        · have d1 : decide ((P : Int) < 2 * X) = true := decide_eq_true h2x
          have HM := Lib.hid (partL_set (sgF P l) 0 l.length k (X - P) (by rw [HN.out, if_pos h2x]))
          clear h2x
          go_wp2
          go_roundg (gk - 1)
          case rel => exact ⟨k + 1, by have := HK.out; omega, by go_num, by rw [← HM.out]; exact blkI_set hO (by rw [partL_len]; exact hlt) _, hb.setCell (p := ⟨w1.heap.size, k, none⟩) (Nat.le_refl _) _⟩
          case measure => have := HK.out; omega
        · have d1 : decide ((P : Int) < 2 * X) = false := decide_eq_false h2x
          have HM := Lib.hid (partL_set (sgF P l) 0 l.length k X (by rw [HN.out, if_neg h2x]))
          clear h2x
          go_wp2
          go_roundg (gk - 1)
          case rel => exact ⟨k + 1, by have := HK.out; omega, by go_num, by rw [← HM.out]; exact blkI_set hO (by rw [partL_len]; exact hlt) _, hb.setCell (p := ⟨w1.heap.size, k, none⟩) (Nat.le_refl _) _⟩
          case measure => have := HK.out; omega
      · rw [partL_end _ _ _ _ (by omega)] at hO
        go_wp2
        go_ret2
        exact RetFE.own HS.out (fullL_len _ _) (blk_RI hO) (bstep hb1 hb)
  · have c0 : (chkL p l != 0) = true := by rw [bne_iff_ne]; exact e0
    have HS := Lib.hid (show sgS p l = ([], chkL p l) by unfold sgS; rw [if_neg e0])
    clear e0
    go_enter Try.func47, Try.ntmps47
    go_wp2_with fail
    refine (chkF_any _ _ _ _ _ hx hl hp1 hp2).mono ?_
    rintro _ w1 ⟨rfl, hb1⟩
    go_wp2
    go_ret2
    exact RetFE.no HS.out hb1

/-! reducing -/
def rdF (P : Nat) (l : List Int) (k : Nat) : Int := l.getD k 0 % (P : Int)
noncomputable def rdS (p : Int) (l : List Int) : List Int × Int :=
  if okP p = true then (if 1000 < l.length then ([], 4) else if l.any (fun x => decide (x < -p ∨ p < x)) = true then ([], 8) else (fullL (rdF p.toNat l) l.length, 0)) else ([], 2)
theorem any2_false {l : List Int} {p : Int} (h : ∀ j, j < l.length → -p ≤ l.getD j 0 ∧ l.getD j 0 ≤ p) : l.any (fun x => decide (x < -p ∨ p < x)) = false := by
  rw [List.any_eq_false]
  intro x hx
  obtain ⟨j, hj, e⟩ := List.getElem_of_mem hx
  have := h j hj
  rw [getD_lt _ _ hj, e] at this
  simp; omega
theorem any2_true {l : List Int} {p : Int} {k : Nat} (hk : k < l.length) (h : l.getD k 0 < -p ∨ p < l.getD k 0) : l.any (fun x => decide (x < -p ∨ p < x)) = true := by
  rw [List.any_eq_true]
  rw [getD_lt _ _ hk] at h
  exact ⟨l[k], List.getElem_mem hk, by simpa using h⟩
set_option maxHeartbeats 1000000 in
theorem reduce_any (p : Int) (A : Option Addr) (c : Nat) (l : List Int) (w : World) (hx : RI .i64 w A l) (hl : l.length ≤ 9223372036854775807) (hp1 : -9223372036854775808 ≤ p) (hp2 : p ≤ 9223372036854775807) :
    Calls Try.prog 43 #[.int .i64 p, .slice A l.length c] w (RetFE w (rdS p l)) := by
  rcases ok_cases p with ⟨e0, e1, P, rfl, h2, h3, hP⟩ | ⟨e0, e1⟩
  · have c0 : (chkE (P : Int) != 0) = false := by rw [e0]; rfl
    clear e0 hP
    by_cases hlen : 1000 < l.length
    · have d1 : decide (1000 < l.length) = true := decide_eq_true hlen
      have HS := Lib.hid (show rdS (P : Int) l = ([], 4) by unfold rdS; rw [if_pos e1, if_pos hlen])
      go_enter Try.func43, Try.ntmps43
      go_wp2_with fail
      refine (ringCheck_any _ _ (by omega) (by omega)).mono ?_
      rintro _ w1 ⟨rfl, hb1⟩
      go_wp2
      go_ret2
      exact RetFE.no HS.out hb1
    · have d1 : decide (1000 < l.length) = false := decide_eq_false hlen
      obtain ⟨i0, hi0, hz0, hz1, hz2⟩ := info_int64
      have hmk := mk_row (P := Try.prog) 31 2 Try.underlying31 hi0 hz0 hz1 hz2 (encI .i64) (encI_len .i64) (by omega) 0 rfl l.length (by omega) (by omega)
      go_enter Try.func43, Try.ntmps43
      go_wp2_with fail
      refine (ringCheck_any _ _ (by omega) (by omega)).mono ?_
      rintro _ w1 ⟨rfl, hb1⟩
      go_wp2
      go_loopg [23] l.length (fun gk i wr => ∃ k : Nat, k + gk = l.length ∧ i = .int .i64 k ∧ Blk wr w1.heap.size 2 ((partL (rdF P l) 0 l.length k).flatMap (encI .i64)).toArray ∧ Below w1.heap.size w1 wr ∧ Hid (∀ j, j < k → -(P : Int) ≤ l.getD j 0 ∧ l.getD j 0 ≤ P))
      case atStart => exact ⟨0, by omega, rfl, by rw [partL_start]; exact Blk.new w1 2 _, balloc (Below.refl _ _) _, Lib.hid (by intro j hj; omega)⟩
      case round =>
        obtain ⟨k, hk, rfl, hO, hb, HA⟩ := hrel
        have hk' : k ≤ l.length := by omega
        have HK := Lib.hid hk
        clear hk hmk
        by_cases hlt : k < l.length
        · obtain ⟨b1, off1, rfl, hlw1, hc1⟩ := ((hx.keep hb1).keep hb).at2 hlt
          have o0 := blkI_at hO (j := k) (by rw [partL_len]; exact hlt)
          have of0 := hO.frozen k
          have hgl := hO.lt
          have HB := Lib.hid (fun (h : l.getD k 0 < -(P : Int) ∨ (P : Int) < l.getD k 0) => show rdS (P : Int) l = ([], 8) by
            unfold rdS; rw [if_pos e1, if_neg hlen, if_pos (any2_true hlt h)])
          have HG := Lib.hid (fun (h : -(P : Int) ≤ l.getD k 0 ∧ l.getD k 0 ≤ P) => show ∀ j, j < k + 1 → -(P : Int) ≤ l.getD j 0 ∧ l.getD j 0 ≤ P from all_lt_succ HA.out h)
          have HN := Lib.hid (show l.getD k 0 % (P : Int) = rdF P l k from rfl)
          generalize l.getD k 0 = x at *
          rcases (show x < -(P : Int) ∨ (-(P : Int) ≤ x ∧ (P : Int) < x) ∨ (-(P : Int) ≤ x ∧ x ≤ P) by omega) with hx1 | ⟨hx1, hx2⟩ | ⟨hx1, hx2⟩
          · have HE := Lib.hid (HB.out (by omega))
            go_wp2
            go_ret2
            exact RetFE.no HE.out (bstep hb1 hb)
          · have HE := Lib.hid (HB.out (by omega))
            go_wp2
            go_ret2
            exact RetFE.no HE.out (bstep hb1 hb)
          · have HE := Lib.hid (HG.out (by omega))
            have HM := Lib.hid (partL_set (rdF P l) 0 l.length k (x % (P : Int)) HN.out)
            go_wp2
            go_roundg (gk - 1)
            case rel => exact ⟨k + 1, by have := HK.out; omega, by go_num, by rw [← HM.out]; exact blkI_set hO (by rw [partL_len]; exact hlt) _, hb.setCell (p := ⟨w1.heap.size, k, none⟩) (Nat.le_refl _) _, HE⟩
            case measure => have := HK.out; omega
        · rw [partL_end _ _ _ _ (by omega)] at hO
          have HS := Lib.hid (show rdS (P : Int) l = (fullL (rdF P l) l.length, 0) by
            unfold rdS; rw [if_pos e1, if_neg hlen, any2_false (fun j hj => HA.out j (by omega))]; rfl)
          go_wp2
          go_ret2
          exact RetFE.own HS.out (fullL_len _ _) (blk_RI hO) (bstep hb1 hb)
  · have c0 : (chkE p != 0) = true := by rw [e0]; rfl
    have HS := Lib.hid (show rdS p l = ([], chkE p) by unfold rdS; rw [e1, e0]; rfl)
    clear e0
    go_enter Try.func43, Try.ntmps43
    go_wp2_with fail
    refine (ringCheck_any _ _ hp1 hp2).mono ?_
    rintro _ w1 ⟨rfl, hb1⟩
    go_wp2
    go_ret2
    exact RetFE.no HS.out hb1
end Go.Proofs.Ytnhjeelcgfobnaa
namespace Go.Proofs.Ytnhjeelcgfobnaa
open Go.RowKit Num
set_option maxRecDepth 8000
set_option linter.unusedVariables false

theorem back_cast {n D k : Nat} (h : 1 ≤ n) (hD : D < n) : ((k : Int) - (D : Int)) % (n : Int) = (backI n D k : Int) := by
  unfold backI
  rw [Int.natCast_emod, show ((k + n - D : Nat) : Int) = (k : Int) - D + n by omega, Int.add_emod_right]


theorem center_any (P : Nat) (x : Int) (w : World) (hP : P ≤ 2000000000) (hx : 0 ≤ x ∧ x < P) :
    Calls Try.prog 49 #[.int .i64 P, .int .i64 x] w fun e w' => e = .returned (.int .i64 (if (P : Int) < 2 * x then x - P else x)) ∧ w = w' := by
  by_cases h : (P : Int) < 2 * x
  · rw [if_pos h]
    go_enter Try.func49, Try.ntmps49
    go_wp2
    go_ret
    exact ⟨rfl, rfl⟩
  · rw [if_neg h]
    have d1 : decide ((P : Int) < 2 * x) = false := decide_eq_false h
    go_enter Try.func49, Try.ntmps49
    go_wp2
    go_ret
    exact ⟨rfl, rfl⟩

end Go.Proofs.Ytnhjeelcgfobnaa
namespace Go.Proofs.Ytnhjeelcgfobnaa
open Go.RowKit Num
set_option maxRecDepth 8000
set_option linter.unusedVariables false

set_option maxHeartbeats 400000 in
theorem refPhase_any (p : Int) (A : Option Addr) (c : Nat) (l : List Int) (d : Int) (w : World) (hx : RI .i64 w A l) (hl : l.length ≤ 9223372036854775807) (hp1 : -9223372036854775808 ≤ p) (hp2 : p ≤ 9223372036854775807) (hd : -9223372036854775808 ≤ d ∧ d ≤ 9223372036854775807) :
    Calls Try.prog 39 #[.int .i64 p, .slice A l.length c, .int .i64 d] w (RetFE w (phS p l d)) := by
  rcases chkL_cases p l with ⟨e0, P, rfl, hF⟩ | e0
  · have c0 : (chkL (P : Int) l != 0) = false := by rw [e0]; rfl
    have HS := Lib.hid (show phS (P : Int) l d = (fullL (phF P l (rotD d l.length)) l.length, 0) by unfold phS; rw [if_pos e0]; rfl)
    have h1 := hF.l1
    have h2 := hF.l64
    have h3 := hF.pr.1
    have h4 := hF.le
    have HF := Lib.hid hF
    clear e0 hF
    obtain ⟨i0, hi0, hz0, hz1, hz2⟩ := info_int64
    have hD := rotD_lt d h1
    have hW := fun w => at_any d l.length w h1 (by omega) hd
    simp only [rotD_cast d h1] at hW
    have HW := Lib.hid hW
    clear hW
    generalize rotD d l.length = D at *
    have hwl := fullL_len (pwF P (rootN P l.length)) l.length
    go_enter Try.func39, Try.ntmps39
    go_wp2_with fail
    refine (refChk_any _ _ _ _ _ hx hl (by omega) (by omega)).mono ?_
    rintro _ w0 ⟨rfl, hb0⟩
    go_wp2_with fail
    refine (root11_any P l _ HF.out).mono ?_
    rintro _ w1 ⟨A1, c1, rfl, hc1', ho1, hb1'⟩
    have hb1 := bstep hb0 hb1'
    have r1 := own_RI ho1
    have hx1 := hx.keep hb1
    clear ho1 hb0 hb1'
    simp only [hwl]
    go_wp2
    go_loopg [9, 10] l.length (fun gk v i wr => ∃ k : Nat, k + gk = l.length ∧ i = .int .i64 k ∧ wr.ownsRow w1.heap.size 2 1 v k ((fullL (phF P l D) k).flatMap (encI .i64)) ∧ Below w1.heap.size w1 wr)
    case atStart => exact ⟨0, by omega, rfl, World.ownsRow_nil _ _ _ _, Below.refl _ _⟩
    case round =>
      obtain ⟨k, hk, rfl, hO, hb⟩ := hrel
      have hk' : k ≤ l.length := by omega
      have HK := Lib.hid hk
      clear hk
      have hsz := hb.size
      obtain ⟨A8, c8, rfl, hc8⟩ := own_shape' hO
      by_cases hlt : k < l.length
      · obtain ⟨b1, off1, rfl, hlw1, hc1⟩ := hx1.at2 hlt
        have hm : D * k % l.length < l.length := Nat.mod_lt _ (by omega)
        have hdk : D * k ≤ 64 * 64 := Nat.mul_le_mul (by omega) (by omega)
        obtain ⟨b2, off2, rfl, hlw2, hc2⟩ := r1.at2 (i := D * k % l.length) (by rw [fullL_len]; exact hm)
        rw [fullL_getD _ _ _ _ hm] at hc2
        have bx := HF.out.el k hlt
        have by' := pwF_bd (P := P) (R := rootN P l.length) (by omega) (D * k % l.length)
        have HN := Lib.hid (show l.getD k 0 * pwF P (rootN P l.length) (D * k % l.length) % (P : Int) = phF P l D k from rfl)
        have hw1 : IntKind.i64.wrap ((D : Int) * (k : Int)) = ((D * k : Nat) : Int) := mul_wrap (by omega) (by omega)
        generalize D * k = jk at *
        have hAt : ∀ wq : World, Calls Try.prog 62 #[.int .i64 (jk : Int), .int .i64 l.length] wq fun e w' => e = .returned (.int .i64 ((jk % l.length : Nat) : Int)) ∧ wq = w' := by
          intro wq
          exact at_any (jk : Int) l.length wq h1 (by omega) (by omega)
        generalize jk % l.length = m at *
        have HAT := Lib.hid hAt
        clear hAt
        generalize l.getD k 0 = X at *
        generalize pwF P (rootN P l.length) m = Y at *
        have fm := fit_mul (s := 0) h4 bx by'
        obtain ⟨Z, hZ⟩ : ∃ Z, Z = X * Y := ⟨_, rfl⟩
        have hw2 : IntKind.i64.wrap (X * Y) = Z := by rw [IntWalk.i64_in _ (by omega), hZ]
        rw [← hZ] at HN fm
        clear hZ
        have HN2 := Lib.hid (show Z.tmod (P : Int) = phF P l D k by rw [Int.tmod_eq_emod_of_nonneg fm.1]; exact HN.out)
        have hzP : ((P : Int) == 0) = false := by rw [beq_eq_false_iff_ne]; omega
        have hzP2 : ¬ ((P : Int) = 0) := by omega
        have hzP3 : ¬ (P = 0) := by omega
        have hcA : wr.cell? ⟨b1, off1 + k, none⟩ = some (.int .i64 X) := (hb.cell (p := ⟨b1, off1 + k, none⟩) hlw1).trans hc1
        have hcB : wr.cell? ⟨b2, off2 + m, none⟩ = some (.int .i64 Y) := (hb.cell (p := ⟨b2, off2 + m, none⟩) hlw2).trans hc2
        go_wp2
        go_region_held3 (fun w' => w'.cell? ⟨b1, off1 + k, none⟩ = some (.int .i64 X) ∧ w'.cell? ⟨b2, off2 + m, none⟩ = some (.int .i64 Y))
          (first | go_keep | exact ⟨hcA, hcB⟩ | exact ⟨(hB4.cell (p := ⟨b1, off1 + k, none⟩) hlw1).trans hc1, (hB4.cell (p := ⟨b2, off2 + m, none⟩) hlw2).trans hc2⟩)
          ((first
            | (go_at_call 62; with_reducible refine (HW.out _).mono ?_; rintro e wq ⟨rfl, rfl⟩)
            | (go_at_call 62; with_reducible refine (HAT.out _).mono ?_; rintro e wq ⟨rfl, rfl⟩)
            | (refine step_append_lies _ (by rfl) (.tmp 28) (.tmp 48) _ (by rfl) w1.heap.size 2 i0 _ 1 8 Try.underlying31 hi0 hz0 hz1 hz2 rfl (by omega) _ k _ (by rfl) (World.ownsRow.drew (hO.alloc (.cells #[.int .i64 (Z.tmod (P : Int))] 2))) ⟨wr.heap.size, 0, none⟩ 1 1 (encI .i64 (Z.tmod (P : Int))) (by rfl) (by rfl) (encI_news wr _ _ _) (encI_one _ _) (by omega) (by unfold maxLen; omega) (by omega) (by simp [World.drew]; omega) (wr.heap.size + 1) (by simp [World.drew]) ?_; intro g4 c4 w4 hown4 hgrow4 hat4 hlt4; have hB4 := own_below (balloc hb (.cells #[.int .i64 (Z.tmod (P : Int))] 2)).drew (World.ownsRow.drew (hO.alloc (.cells #[.int .i64 (Z.tmod (P : Int))] 2))) hgrow4 (Nat.le_refl _) (by simp [World.drew]; omega))))
        all_goals go_wp2
        all_goals
          go_roundg (gk - 1)
          case rel => exact ⟨k + 1, by have := HK.out; omega, by go_num, by rw [fullL_succ, flat_snoc, ← HN2.out]; exact hown4, hB4⟩
          case measure => have := HK.out; omega
      · obtain rfl : k = l.length := by omega
        go_wp2
        go_ret2
        exact RetFE.own HS.out (fullL_len _ _) (own_RI_at (fullL_len _ _) hO) (bstep hb1 hb)
  · have c0 : (chkL p l != 0) = true := by rw [bne_iff_ne]; exact e0
    have HS := Lib.hid (show phS p l d = ([], chkL p l) by unfold phS; rw [if_neg e0])
    clear e0
    go_enter Try.func39, Try.ntmps39
    go_wp2_with fail
    refine (refChk_any _ _ _ _ _ hx hl hp1 hp2).mono ?_
    rintro _ w1 ⟨rfl, hb1⟩
    go_wp2_with fail
    refine (refChk_any _ _ _ _ _ (hx.keep hb1) hl hp1 hp2).mono ?_
    rintro _ w2 ⟨rfl, hb2⟩
    go_wp2
    go_ret2
    exact RetFE.no HS.out (bstep hb1 hb2)
end Go.Proofs.Ytnhjeelcgfobnaa
namespace Go.Proofs.Ytnhjeelcgfobnaa
open Go.RowKit Num
set_option maxRecDepth 8000
set_option linter.unusedVariables false
set_option linter.unusedSimpArgs false

/-- a new row of numbers, and an error -/
def RetN (w : World) (r : List Int × Int) (e : Ending) (w' : World) : Prop :=
  ∃ A c, e = .returned (.tuple #[.slice A r.1.length c, .int .i64 r.2]) ∧ Lol.RIo .i64 w.heap.size w' A r.1 ∧ r.1.length ≤ c ∧ Below w.heap.size w w'
theorem RetN.no {w w' : World} {x : Int} {r : List Int × Int} (hr : r = ([], x)) (hb : Below w.heap.size w w') : RetN w r (.returned (.tuple #[.slice none 0 0, .int .i64 x])) w' := by
  subst hr; exact ⟨none, 0, rfl, fun h => absurd h (by simp), by simp, hb⟩
theorem RetN.blk {w w' : World} {g n : Nat} {l : List Int} {x : Int} {r : List Int × Int} (hr : r = (l, x)) (hn : l.length = n) (hg : w.heap.size ≤ g) (h : Blk w' g 2 (l.flatMap (encI .i64)).toArray) (hb : Below w.heap.size w w') : RetN w r (.returned (.tuple #[.slice (some ⟨g, 0, none⟩) n n, .int .i64 x])) w' := by
  subst hr; subst hn; exact ⟨_, _, rfl, Lol.blk_RIo h hg, Nat.le_refl _, hb⟩
theorem RetN.row {w w' : World} {A : Option Addr} {c n : Nat} {l : List Int} {x : Int} {r : List Int × Int} (hr : r = (l, x)) (hn : l.length = n) (h : Lol.RIo .i64 w.heap.size w' A l) (hc : n ≤ c) (hb : Below w.heap.size w w') : RetN w r (.returned (.tuple #[.slice A n c, .int .i64 x])) w' := by
  subst hr; subst hn; exact ⟨A, c, rfl, h, hc, hb⟩
theorem RetN.fe {w w' : World} {r : List Int × Int} {e : Ending} (h : RetN w r e w') : RetFE w r e w' := by
  obtain ⟨A, c, he, h1, _, h2⟩ := h
  exact ⟨A, c, he, h1.ri, h2⟩
theorem fwdN_any (p : Int) (A : Option Addr) (c : Nat) (l : List Int) (w : World) (hx : RI .i64 w A l) (hl : l.length ≤ 9223372036854775807) (hp1 : -9223372036854775808 ≤ p) (hp2 : p ≤ 9223372036854775807) :
    Calls Try.prog 44 #[.int .i64 p, .slice A l.length c] w (RetN w (fwdS p l)) := by
  rcases chkL_cases p l with ⟨e0, P, rfl, hF⟩ | e0
  · have c0 : (chkL (P : Int) l != 0) = false := by rw [e0]; rfl
    have HS := Lib.hid (show fwdS (P : Int) l = (fwdL P l, 0) by unfold fwdS; rw [if_pos e0]; rfl)
    have h1 := hF.l1
    have h2 := hF.l64
    have h3 := hF.pr.1
    have h4 := hF.le
    have hlt := rootN_lt (P := P) (n := l.length) (by omega)
    have HR := Lib.hid (rootS_fit hF)
    have hC := fun w => ringRoot_any (P : Int) (l.length : Int) w (by omega) (by omega) (by omega)
    simp only [HR.out] at hC
    have HC := Lib.hid hC
    have HF := Lib.hid hF
    clear hC hF e0
    have hwl := fullL_len (pwF P (rootN P l.length)) l.length
    go_enter Try.func44, Try.ntmps44
    go_wp2_with fail
    refine (chkF_any _ _ _ _ _ hx hl (by omega) (by omega)).mono ?_
    rintro _ w1 ⟨rfl, hb1⟩
    go_wp2_with fail
    refine (HC.out _).mono ?_
    rintro _ w2 ⟨rfl, hb2⟩
    have hB2 := bstep hb1 hb2
    clear hb1 hb2
    go_wp2_with fail
    refine (powers_any P (rootN P l.length) l.length _ h3 h4 hlt (by omega)).mono ?_
    rintro _ w3 ⟨g3, rfl, hg3, hk3, hb3⟩
    have r3 := blk_RI hk3
    have hB3 := bstep hB2 hb3
    clear hB2 hb3 hk3
    simp only [hwl]
    have hT := transform_any P A (some ⟨g3, 0, none⟩) c l.length l (pwF P (rootN P l.length)) w3 h3 h4 (hx.keep hB3) r3 h1 h2 HF.out.el (fun j _ => pwF_bd (by omega) j)
    go_wp2_with fail
    refine (hT).mono ?_
    rintro _ w4 ⟨g4, rfl, hg4, hk4, hb4⟩
    go_wp2
    go_ret2
    exact RetN.blk HS.out rfl (Nat.le_trans hB3.size hg4) hk4 (bstep hB3 hb4)
  · have c0 : (chkL p l != 0) = true := by rw [bne_iff_ne]; exact e0
    have HS := Lib.hid (show fwdS p l = ([], chkL p l) by unfold fwdS; rw [if_neg e0])
    clear e0
    go_enter Try.func44, Try.ntmps44
    go_wp2_with fail
    refine (chkF_any _ _ _ _ _ hx hl hp1 hp2).mono ?_
    rintro _ w1 ⟨rfl, hb1⟩
    go_wp2
    go_ret2
    exact RetN.no HS.out hb1
set_option maxHeartbeats 1000000 in
theorem phaseN_any (p : Int) (A : Option Addr) (c : Nat) (l : List Int) (d : Int) (w : World) (hx : RI .i64 w A l) (hl : l.length ≤ 9223372036854775807) (hp1 : -9223372036854775808 ≤ p) (hp2 : p ≤ 9223372036854775807) (hd : -9223372036854775808 ≤ d ∧ d ≤ 9223372036854775807) :
    Calls Try.prog 37 #[.int .i64 p, .slice A l.length c, .int .i64 d] w (RetN w (phS p l d)) := by
  rcases chkL_cases p l with ⟨e0, P, rfl, hF⟩ | e0
  · have c0 : (chkL (P : Int) l != 0) = false := by rw [e0]; rfl
    have HS := Lib.hid (show phS (P : Int) l d = (fullL (phF P l (rotD d l.length)) l.length, 0) by unfold phS; rw [if_pos e0]; rfl)
    have h1 := hF.l1
    have h2 := hF.l64
    have h3 := hF.pr.1
    have h4 := hF.le
    have hlt0 := rootN_lt (P := P) (n := l.length) (by omega)
    have HR := Lib.hid (rootS_fit hF)
    have hC := fun w => ringRoot_any (P : Int) (l.length : Int) w (by omega) (by omega) (by omega)
    simp only [HR.out] at hC
    have HC := Lib.hid hC
    have HF := Lib.hid hF
    clear e0 hF hC
    obtain ⟨i0, hi0, hz0, hz1, hz2⟩ := info_int64
    have hmk := mk_row (P := Try.prog) 31 2 Try.underlying31 hi0 hz0 hz1 hz2 (encI .i64) (encI_len .i64) (by omega) 0 rfl l.length (by omega) (by omega)
    have hD := rotD_lt d h1
    have hW := fun w => within_any d l.length w h1 (by omega) hd
    simp only [rotD_cast d h1] at hW
    have HW := Lib.hid hW
    clear hW
    generalize rotD d l.length = D at *
    have hwl := fullL_len (pwF P (rootN P l.length)) l.length
    go_enter Try.func37, Try.ntmps37
    go_wp2_with fail
    refine (chkF_any _ _ _ _ _ hx hl (by omega) (by omega)).mono ?_
    rintro _ w1 ⟨rfl, hb1⟩
    go_wp2_with fail
    refine (HC.out _).mono ?_
    rintro _ w2 ⟨rfl, hb2⟩
    have hB2 := bstep hb1 hb2
    clear hb1 hb2
    go_wp2_with fail
    refine (HW.out _).mono ?_
    rintro _ _ ⟨rfl, rfl⟩
    go_wp2_with fail
    refine (powers_any P (rootN P l.length) l.length _ h3 h4 hlt0 (by omega)).mono ?_
    rintro _ w3 ⟨g3, rfl, hg3, hk3, hb3⟩
    have r3 := blk_RI hk3
    have hB3 := bstep hB2 hb3
    clear hB2 hb3 hk3
    simp only [hwl]
    go_wp2
    go_loopg [44] l.length (fun gk i wr => ∃ k : Nat, k + gk = l.length ∧ i = .int .i64 k ∧ Blk wr w3.heap.size 2 ((partL (phF P l D) 0 l.length k).flatMap (encI .i64)).toArray ∧ Below w3.heap.size w3 wr)
    case atStart => exact ⟨0, by omega, rfl, by rw [partL_start]; exact Blk.new w3 2 _, balloc (Below.refl _ _) _⟩
    case round =>
      obtain ⟨k, hk, rfl, hO, hb⟩ := hrel
      have hk' : k ≤ l.length := by omega
      have HK := Lib.hid hk
      clear hk hmk
      by_cases hlt : k < l.length
      · obtain ⟨b1, off1, rfl, hlw1, hc1⟩ := ((hx.keep hB3).keep hb).at2 hlt
        have hm : D * k % l.length < l.length := Nat.mod_lt _ (by omega)
        have hdk : D * k ≤ 64 * 64 := Nat.mul_le_mul (by omega) (by omega)
        obtain ⟨b2, off2, e2, hlw2, hc2⟩ := (r3.keep hb).at2 (i := D * k % l.length) (by rw [fullL_len]; exact hm)
        obtain ⟨rfl, rfl⟩ : g3 = b2 ∧ 0 = off2 := by injection e2 with e2; injection e2 with e3 e4; exact ⟨e3, e4⟩
        clear e2
        rw [fullL_getD _ _ _ _ hm, Nat.zero_add] at hc2
        have bx := HF.out.el k hlt
        have by' := pwF_bd (P := P) (R := rootN P l.length) (by omega) (D * k % l.length)
        have o0 := blkI_at hO (j := k) (by rw [partL_len]; exact hlt)
        have of0 := hO.frozen k
        have hgl := hO.lt
        have HN := Lib.hid (show l.getD k 0 * pwF P (rootN P l.length) (D * k % l.length) % (P : Int) = phF P l D k from rfl)
        have hw1 : IntKind.i64.wrap ((D : Int) * (k : Int)) = ((D * k : Nat) : Int) := mul_wrap (by omega) (by omega)
        generalize D * k = jk at *
        generalize hM : jk % l.length = m at *
        have hM2 : (jk : Int) % (l.length : Int) = (m : Int) := by rw [← Int.natCast_emod, hM]
        clear hM
        generalize l.getD k 0 = X at *
        generalize pwF P (rootN P l.length) m = Y at *
        have fm := fit_mul (s := 0) h4 bx by'
        obtain ⟨Z, hZ⟩ : ∃ Z, Z = X * Y := ⟨_, rfl⟩
        have hw2 : IntKind.i64.wrap (X * Y) = Z := by rw [IntWalk.i64_in _ (by omega), hZ]
        rw [← hZ] at HN fm
        clear hZ
        have HM := Lib.hid (partL_set (phF P l D) 0 l.length k (Z % (P : Int)) HN.out)
        go_wp2
        all_goals
          go_roundg (gk - 1)
          case rel => exact ⟨k + 1, by have := HK.out; omega, by go_num, by rw [← HM.out]; exact blkI_set hO (by rw [partL_len]; exact hlt) _, hb.setCell (p := ⟨w3.heap.size, k, none⟩) (Nat.le_refl _) _⟩
          case measure => have := HK.out; omega
      · rw [partL_end _ _ _ _ (by omega)] at hO
        go_wp2
        go_ret2
        exact RetN.blk HS.out (fullL_len _ _) hB3.size hO (bstep hB3 hb)
  · have c0 : (chkL p l != 0) = true := by rw [bne_iff_ne]; exact e0
    have HS := Lib.hid (show phS p l d = ([], chkL p l) by unfold phS; rw [if_neg e0])
    clear e0
    go_enter Try.func37, Try.ntmps37
    go_wp2_with fail
    refine (chkF_any _ _ _ _ _ hx hl hp1 hp2).mono ?_
    rintro _ w1 ⟨rfl, hb1⟩
    go_wp2
    go_ret2
    exact RetN.no HS.out hb1

/-! signed numbers -/
set_option maxHeartbeats 1000000 in
theorem signedN_any (p : Int) (A : Option Addr) (c : Nat) (l : List Int) (w : World) (hx : RI .i64 w A l) (hl : l.length ≤ 9223372036854775807) (hp1 : -9223372036854775808 ≤ p) (hp2 : p ≤ 9223372036854775807) :
    Calls Try.prog 47 #[.int .i64 p, .slice A l.length c] w (RetN w (sgS p l)) := by
  rcases chkL_cases p l with ⟨e0, P, rfl, hF⟩ | e0
  · have c0 : (chkL (P : Int) l != 0) = false := by rw [e0]; rfl
    have HS := Lib.hid (show sgS (P : Int) l = (fullL (sgF P l) l.length, 0) by unfold sgS; rw [if_pos e0]; rfl)
    have h1 := hF.l1
    have h2 := hF.l64
    have h4 := hF.le
    have HF := Lib.hid hF
    clear e0 hF
    obtain ⟨i0, hi0, hz0, hz1, hz2⟩ := info_int64
    have hmk := mk_row (P := Try.prog) 31 2 Try.underlying31 hi0 hz0 hz1 hz2 (encI .i64) (encI_len .i64) (by omega) 0 rfl l.length (by omega) (by omega)
    go_enter Try.func47, Try.ntmps47
    go_wp2_with fail
    refine (chkF_any _ _ _ _ _ hx hl (by omega) (by omega)).mono ?_
    rintro _ w1 ⟨rfl, hb1⟩
    go_wp2
    go_loopg [21] l.length (fun gk i wr => ∃ k : Nat, k + gk = l.length ∧ i = .int .i64 k ∧ Blk wr w1.heap.size 2 ((partL (sgF P l) 0 l.length k).flatMap (encI .i64)).toArray ∧ Below w1.heap.size w1 wr)
    case atStart => exact ⟨0, by omega, rfl, by rw [partL_start]; exact Blk.new w1 2 _, balloc (Below.refl _ _) _⟩
    case round =>
      obtain ⟨k, hk, rfl, hO, hb⟩ := hrel
      have hk' : k ≤ l.length := by omega
      have HK := Lib.hid hk
      clear hk hmk
      by_cases hlt : k < l.length
      · obtain ⟨b1, off1, rfl, hlw1, hc1⟩ := ((hx.keep hb1).keep hb).at2 hlt
        have bx := HF.out.el k hlt
        have o0 := blkI_at hO (j := k) (by rw [partL_len]; exact hlt)
        have of0 := hO.frozen k
        have hgl := hO.lt
        have HN := Lib.hid (show sgF P l k = if (P : Int) < 2 * l.getD k 0 then l.getD k 0 - P else l.getD k 0 from rfl)
        generalize l.getD k 0 = X at *
        by_cases h2x : (P : Int) < 2 * X
        · have d1 : decide ((P : Int) < 2 * X) = true := decide_eq_true h2x
          have HM := Lib.hid (partL_set (sgF P l) 0 l.length k (X - P) (by rw [HN.out, if_pos h2x]))
          clear h2x
          go_wp2
          go_roundg (gk - 1)
          case rel => exact ⟨k + 1, by have := HK.out; omega, by go_num, by rw [← HM.out]; exact blkI_set hO (by rw [partL_len]; exact hlt) _, hb.setCell (p := ⟨w1.heap.size, k, none⟩) (Nat.le_refl _) _⟩
          case measure => have := HK.out; omega
        · have d1 : decide ((P : Int) < 2 * X) = false := decide_eq_false h2x
          have HM := Lib.hid (partL_set (sgF P l) 0 l.length k X (by rw [HN.out, if_neg h2x]))
          clear h2x
          go_wp2
          go_roundg (gk - 1)
          case rel => exact ⟨k + 1, by have := HK.out; omega, by go_num, by rw [← HM.out]; exact blkI_set hO (by rw [partL_len]; exact hlt) _, hb.setCell (p := ⟨w1.heap.size, k, none⟩) (Nat.le_refl _) _⟩
          case measure => have := HK.out; omega
      · rw [partL_end _ _ _ _ (by omega)] at hO
        go_wp2
        go_ret2
        exact RetN.blk HS.out (fullL_len _ _) hb1.size hO (bstep hb1 hb)
  · have c0 : (chkL p l != 0) = true := by rw [bne_iff_ne]; exact e0
    have HS := Lib.hid (show sgS p l = ([], chkL p l) by unfold sgS; rw [if_neg e0])
    clear e0
    go_enter Try.func47, Try.ntmps47
    go_wp2_with fail
    refine (chkF_any _ _ _ _ _ hx hl hp1 hp2).mono ?_
    rintro _ w1 ⟨rfl, hb1⟩
    go_wp2
    go_ret2
    exact RetN.no HS.out hb1
end Go.Proofs.Ytnhjeelcgfobnaa
