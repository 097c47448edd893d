/-
  Contracts: Turn, Phase, Signed, Reduce of the program.
-/
import Derived.Test.YtdcacklochaljaaFouG
namespace Go.Proofs.Ytdcacklochaljaa
open Go.RowKit Num
set_option linter.unusedVariables false

/-- a new slice of numbers, and an error -/
def RetNE (w : World) (r : List Int × Int) (e : Ending) (w' : World) : Prop :=
  ∃ A c, e = .returned (.tuple #[.slice A r.1.length c, .int .i64 r.2]) ∧ RI .i64 w' A r.1 ∧ Below w.heap.size w w' ∧ (r.1 = [] ∨ ∃ g, A = some ⟨g, 0, none⟩ ∧ w.heap.size ≤ g ∧ Blk w' g 2 (r.1.flatMap (encI .i64)).toArray)
theorem RetNE.no {w w' : World} {x : Int} {r : List Int × Int} (hr : r = ([], x)) (hb : Below w.heap.size w w') : RetNE w r (.returned (.tuple #[.slice none 0 0, .int .i64 x])) w' := by
  subst hr; exact ⟨Option.none, 0, rfl, RI.nil, hb, Or.inl rfl⟩
theorem RetNE.blk {w w' : World} {g n : Nat} {l : List Int} {x : Int} {r : List Int × Int} (hr : r = (l, x)) (hn : l.length = n) (hg : w.heap.size ≤ g) (h : Blk w' g 2 (l.flatMap (encI .i64)).toArray) (hb : Below w.heap.size w w') :
    RetNE w r (.returned (.tuple #[.slice (some ⟨g, 0, none⟩) n n, .int .i64 x])) w' := by
  subst hr; subst hn; exact ⟨_, _, rfl, blk_RI h, hb, Or.inr ⟨g, rfl, hg, h⟩⟩

/-! turning -/
def backI (n D m : Nat) : Nat := (m + n - D) % n
theorem backI_lt {n D m : Nat} (h : 1 ≤ n) : backI n D m < n := Nat.mod_lt _ (by omega)
theorem backI_iff {n D m k : Nat} (hD : D < n) (hm : m < n) (hk : k < n) : backI n D m = k ↔ m = (k + D) % n := by
  unfold backI
  by_cases h1 : D ≤ m
  · rw [show m + n - D = (m - D) + n by omega, Nat.add_mod_right, Nat.mod_eq_of_lt (show m - D < n by omega)]
    by_cases h2 : k + D < n
    · rw [Nat.mod_eq_of_lt h2]; omega
    · rw [Nat.mod_eq_sub_mod (by omega), Nat.mod_eq_of_lt (by omega)]; omega
  · rw [Nat.mod_eq_of_lt (show m + n - D < n by omega)]
    by_cases h2 : k + D < n
    · rw [Nat.mod_eq_of_lt h2]; omega
    · rw [Nat.mod_eq_sub_mod (by omega), Nat.mod_eq_of_lt (by omega)]; omega
def tuF (l : List Int) (D m : Nat) : Int := l.getD (backI l.length D m) 0
def tuP (l : List Int) (D k : Nat) : List Int := (List.range l.length).map (fun m => if backI l.length D m < k then tuF l D m else 0)
theorem tuP_len (l : List Int) (D k : Nat) : (tuP l D k).length = l.length := by simp [tuP]
theorem tuP_start (l : List Int) (D : Nat) : tuP l D 0 = List.replicate l.length 0 := by
  apply List.ext_getElem (by simp [tuP])
  intro i h1 h2
  simp [tuP]
theorem tuP_end (l : List Int) (D k : Nat) (h : l.length ≤ k) : tuP l D k = fullL (tuF l D) l.length := by
  apply List.ext_getElem (by simp [tuP, fullL])
  intro i h1 h2
  have hi : i < l.length := by simpa [tuP] using h1
  simp only [tuP, fullL, List.getElem_map, List.getElem_range]
  rw [if_pos (Nat.lt_of_lt_of_le (backI_lt (by omega)) h)]
theorem tuP_step {l : List Int} {D k : Nat} (hD : D < l.length) (hk : k < l.length) : (tuP l D k).set ((k + D) % l.length) (l.getD k 0) = tuP l D (k + 1) := by
  apply List.ext_getElem (by simp [tuP])
  intro i h1 h2
  have hi : i < l.length := by simpa [tuP] using h2
  have hiff := backI_iff hD hi hk
  simp only [tuP, List.getElem_set, List.getElem_map, List.getElem_range]
  by_cases e : (k + D) % l.length = i
  · have e2 := hiff.2 e.symm
    rw [if_pos e, if_pos (by omega)]
    unfold tuF
    rw [e2]
  · have e2 : backI l.length D i ≠ k := fun h => e (hiff.1 h).symm
    rw [if_neg e]
    by_cases h : backI l.length D i < k
    · rw [if_pos h, if_pos (by omega)]
    · rw [if_neg h, if_neg (by omega)]
def rotD (d : Int) (n : Nat) : Nat := (d % (n : Int)).toNat
theorem rotD_lt (d : Int) {n : Nat} (h : 1 ≤ n) : rotD d n < n := by unfold rotD; have := emod_bd d h; omega
theorem rotD_cast (d : Int) {n : Nat} (h : 1 ≤ n) : d % (n : Int) = (rotD d n : Int) := by unfold rotD; have := emod_bd d h; omega
noncomputable def tuS (p : Int) (l : List Int) (d : Int) : List Int × Int := if chkL p l = 0 then (fullL (tuF l (rotD d l.length)) l.length, 0) else ([], chkL p l)

set_option maxHeartbeats 1000000 in
theorem turn_any (p : Int) (A : Option Addr) (c : Nat) (l : List Int) (d : Int) (w : World) (hx : RI .i64 w A l) (hl : l.length ≤ 9223372036854775807) (hp1 : -9223372036854775808 ≤ p) (hp2 : p ≤ 9223372036854775807) (hd : -9223372036854775808 ≤ d ∧ d ≤ 9223372036854775807) :
    Calls Try.prog 11 #[.int .i64 p, .slice A l.length c, .int .i64 d] w (RetNE w (tuS p l d)) := by
  rcases chkL_cases p l with ⟨e0, P, rfl, hF⟩ | e0
  · have c0 : (chkL (P : Int) l != 0) = false := by rw [e0]; rfl
    have HS := Lib.hid (show tuS (P : Int) l d = (fullL (tuF l (rotD d l.length)) l.length, 0) by unfold tuS; rw [if_pos e0])
    have h1 := hF.l1
    have h2 := hF.l64
    have h4 := hF.le
    clear e0 hF
    obtain ⟨i0, hi0, hz0, hz1, hz2⟩ := info_int64
    have hmk := mk_row (P := Try.prog) 22 2 Try.underlying22 hi0 hz0 hz1 hz2 (encI .i64) (encI_len .i64) (by omega) 0 rfl l.length (by omega) (by omega)
    have hD := rotD_lt d h1
    have hW := fun w => within_any d l.length w h1 (by omega) hd
    simp only [rotD_cast d h1] at hW
    have HW := Lib.hid hW
    clear hW
    generalize rotD d l.length = D at *
    go_enter Try.func11, Try.ntmps11
    go_wp2_with fail
    refine (chkF_any _ _ _ _ _ hx hl (by omega) (by omega)).mono ?_
    rintro _ w1 ⟨rfl, hb1⟩
    go_wp2_with fail
    refine (HW.out _).mono ?_
    rintro _ _ ⟨rfl, rfl⟩
    go_wp2
    go_loopg [28] l.length (fun gk i wr => ∃ k : Nat, k + gk = l.length ∧ i = .int .i64 k ∧ Blk wr w1.heap.size 2 ((tuP l D k).flatMap (encI .i64)).toArray ∧ Below w1.heap.size w1 wr)
    case atStart => exact ⟨0, by omega, rfl, by rw [tuP_start]; exact Blk.new w1 2 _, balloc (Below.refl _ _) _⟩
    case round =>
      obtain ⟨k, hk, rfl, hO, hb⟩ := hrel
      have hk' : k ≤ l.length := by omega
      have HK := Lib.hid hk
      clear hk hmk
      by_cases hlt : k < l.length
      · obtain ⟨b1, off1, rfl, hlw1, hc1⟩ := ((hx.keep hb1).keep hb).at2 hlt
        have hm : (k + D) % l.length < l.length := Nat.mod_lt _ (by omega)
        have o0 := blkI_at hO (j := (k + D) % l.length) (by rw [tuP_len]; exact hm)
        have of0 := hO.frozen ((k + D) % l.length)
        have hgl := hO.lt
        have HN := Lib.hid (tuP_step hD hlt)
        have HI := Lib.hid (blkI_set hO (j := (k + D) % l.length) (by rw [tuP_len]; exact hm) (l.getD k 0))
        generalize l.getD k 0 = X at *
        obtain ⟨m, hM⟩ : ∃ m, m = (k + D) % l.length := ⟨_, rfl⟩
        rw [← hM] at HN HI o0 of0 hm
        have hM2 : ((k : Int) + (D : Int)) % (l.length : Int) = (m : Int) := by rw [← Int.natCast_add, ← Int.natCast_emod, hM]
        clear hM
        go_wp2
        go_roundg (gk - 1)
        case rel => exact ⟨k + 1, by have := HK.out; omega, by go_num, by rw [← HN.out]; exact HI.out, hb.setCell (p := ⟨w1.heap.size, m, none⟩) (Nat.le_refl _) _⟩
        case measure => have := HK.out; omega
      · rw [tuP_end _ _ _ (by omega)] at hO
        go_wp2
        go_ret2
        exact RetNE.blk HS.out (fullL_len _ _) hb1.size hO (bstep hb1 hb)
  · have c0 : (chkL p l != 0) = true := by rw [bne_iff_ne]; exact e0
    have HS := Lib.hid (show tuS p l d = ([], chkL p l) by unfold tuS; rw [if_neg e0])
    clear e0
    go_enter Try.func11, Try.ntmps11
    go_wp2_with fail
    refine (chkF_any _ _ _ _ _ hx hl hp1 hp2).mono ?_
    rintro _ w1 ⟨rfl, hb1⟩
    go_wp2
    go_ret2
    exact RetNE.no HS.out hb1

/-! phasing -/
noncomputable def phF (P : Nat) (l : List Int) (D k : Nat) : Int := l.getD k 0 * pwF P (rootN P l.length) (D * k % l.length) % (P : Int)
noncomputable def phS (p : Int) (l : List Int) (d : Int) : List Int × Int := if chkL p l = 0 then (fullL (phF p.toNat l (rotD d l.length)) l.length, 0) else ([], chkL p l)
set_option maxHeartbeats 1000000 in
theorem phase_any (p : Int) (A : Option Addr) (c : Nat) (l : List Int) (d : Int) (w : World) (hx : RI .i64 w A l) (hl : l.length ≤ 9223372036854775807) (hp1 : -9223372036854775808 ≤ p) (hp2 : p ≤ 9223372036854775807) (hd : -9223372036854775808 ≤ d ∧ d ≤ 9223372036854775807) :
    Calls Try.prog 13 #[.int .i64 p, .slice A l.length c, .int .i64 d] w (RetFE w (phS p l d)) := by
  rcases chkL_cases p l with ⟨e0, P, rfl, hF⟩ | e0
  · have c0 : (chkL (P : Int) l != 0) = false := by rw [e0]; rfl
    have HS := Lib.hid (show phS (P : Int) l d = (fullL (phF P l (rotD d l.length)) l.length, 0) by unfold phS; rw [if_pos e0]; rfl)
    have h1 := hF.l1
    have h2 := hF.l64
    have h3 := hF.pr.1
    have h4 := hF.le
    have hlt0 := rootN_lt (P := P) (n := l.length) (by omega)
    have HR := Lib.hid (rootS_fit hF)
    have hC := fun w => ringRoot_any (P : Int) (l.length : Int) w (by omega) (by omega) (by omega)
    simp only [HR.out] at hC
    have HC := Lib.hid hC
    have HF := Lib.hid hF
    clear e0 hF hC
    obtain ⟨i0, hi0, hz0, hz1, hz2⟩ := info_int64
    have hmk := mk_row (P := Try.prog) 22 2 Try.underlying22 hi0 hz0 hz1 hz2 (encI .i64) (encI_len .i64) (by omega) 0 rfl l.length (by omega) (by omega)
    have hD := rotD_lt d h1
    have hW := fun w => within_any d l.length w h1 (by omega) hd
    simp only [rotD_cast d h1] at hW
    have HW := Lib.hid hW
    clear hW
    generalize rotD d l.length = D at *
    have hwl := fullL_len (pwF P (rootN P l.length)) l.length
    go_enter Try.func13, Try.ntmps13
    go_wp2_with fail
    refine (chkF_any _ _ _ _ _ hx hl (by omega) (by omega)).mono ?_
    rintro _ w1 ⟨rfl, hb1⟩
    go_wp2_with fail
    refine (HC.out _).mono ?_
    rintro _ w2 ⟨rfl, hb2⟩
    have hB2 := bstep hb1 hb2
    clear hb1 hb2
    go_wp2_with fail
    refine (HW.out _).mono ?_
    rintro _ _ ⟨rfl, rfl⟩
    go_wp2_with fail
    refine (powers_any P (rootN P l.length) l.length _ h3 h4 hlt0 (by omega)).mono ?_
    rintro _ w3 ⟨g3, rfl, hg3, hk3, hb3⟩
    have r3 := blk_RI hk3
    have hB3 := bstep hB2 hb3
    clear hB2 hb3 hk3
    simp only [hwl]
    go_wp2
    go_loopg [44] l.length (fun gk i wr => ∃ k : Nat, k + gk = l.length ∧ i = .int .i64 k ∧ Blk wr w3.heap.size 2 ((partL (phF P l D) 0 l.length k).flatMap (encI .i64)).toArray ∧ Below w3.heap.size w3 wr)
    case atStart => exact ⟨0, by omega, rfl, by rw [partL_start]; exact Blk.new w3 2 _, balloc (Below.refl _ _) _⟩
    case round =>
      obtain ⟨k, hk, rfl, hO, hb⟩ := hrel
      have hk' : k ≤ l.length := by omega
      have HK := Lib.hid hk
      clear hk hmk
      by_cases hlt : k < l.length
      · obtain ⟨b1, off1, rfl, hlw1, hc1⟩ := ((hx.keep hB3).keep hb).at2 hlt
        have hm : D * k % l.length < l.length := Nat.mod_lt _ (by omega)
        have hdk : D * k ≤ 64 * 64 := Nat.mul_le_mul (by omega) (by omega)
        obtain ⟨b2, off2, e2, hlw2, hc2⟩ := (r3.keep hb).at2 (i := D * k % l.length) (by rw [fullL_len]; exact hm)
        obtain ⟨rfl, rfl⟩ : g3 = b2 ∧ 0 = off2 := by injection e2 with e2; injection e2 with e3 e4; exact ⟨e3, e4⟩
        clear e2
        rw [fullL_getD _ _ _ _ hm, Nat.zero_add] at hc2
        have bx := HF.out.el k hlt
        have by' := pwF_bd (P := P) (R := rootN P l.length) (by omega) (D * k % l.length)
        have o0 := blkI_at hO (j := k) (by rw [partL_len]; exact hlt)
        have of0 := hO.frozen k
        have hgl := hO.lt
        have HN := Lib.hid (show l.getD k 0 * pwF P (rootN P l.length) (D * k % l.length) % (P : Int) = phF P l D k from rfl)
        have hw1 : IntKind.i64.wrap ((D : Int) * (k : Int)) = ((D * k : Nat) : Int) := mul_wrap (by omega) (by omega)
        generalize D * k = jk at *
        generalize hM : jk % l.length = m at *
        have hM2 : (jk : Int) % (l.length : Int) = (m : Int) := by rw [← Int.natCast_emod, hM]
        clear hM
        generalize l.getD k 0 = X at *
        generalize pwF P (rootN P l.length) m = Y at *
        have fm := fit_mul (s := 0) h4 bx by'
        obtain ⟨Z, hZ⟩ : ∃ Z, Z = X * Y := ⟨_, rfl⟩
        have hw2 : IntKind.i64.wrap (X * Y) = Z := by rw [IntWalk.i64_in _ (by omega), hZ]
        rw [← hZ] at HN fm
        clear hZ
        have HM := Lib.hid (partL_set (phF P l D) 0 l.length k (Z % (P : Int)) HN.out)
        go_wp2
        all_goals
          go_roundg (gk - 1)
          case rel => exact ⟨k + 1, by have := HK.out; omega, by go_num, by rw [← HM.out]; exact blkI_set hO (by rw [partL_len]; exact hlt) _, hb.setCell (p := ⟨w3.heap.size, k, none⟩) (Nat.le_refl _) _⟩
          case measure => have := HK.out; omega
      · rw [partL_end _ _ _ _ (by omega)] at hO
        go_wp2
        go_ret2
        exact RetFE.own HS.out (fullL_len _ _) (blk_RI hO) (bstep hB3 hb)
  · have c0 : (chkL p l != 0) = true := by rw [bne_iff_ne]; exact e0
    have HS := Lib.hid (show phS p l d = ([], chkL p l) by unfold phS; rw [if_neg e0])
    clear e0
    go_enter Try.func13, Try.ntmps13
    go_wp2_with fail
    refine (chkF_any _ _ _ _ _ hx hl hp1 hp2).mono ?_
    rintro _ w1 ⟨rfl, hb1⟩
    go_wp2
    go_ret2
    exact RetFE.no HS.out hb1

/-! signed numbers -/
def sgF (P : Nat) (l : List Int) (k : Nat) : Int := if (P : Int) < 2 * l.getD k 0 then l.getD k 0 - P else l.getD k 0
noncomputable def sgS (p : Int) (l : List Int) : List Int × Int := if chkL p l = 0 then (fullL (sgF p.toNat l) l.length, 0) else ([], chkL p l)
set_option maxHeartbeats 1000000 in
theorem signed_any (p : Int) (A : Option Addr) (c : Nat) (l : List Int) (w : World) (hx : RI .i64 w A l) (hl : l.length ≤ 9223372036854775807) (hp1 : -9223372036854775808 ≤ p) (hp2 : p ≤ 9223372036854775807) :
    Calls Try.prog 15 #[.int .i64 p, .slice A l.length c] w (RetFE w (sgS p l)) := by
  rcases chkL_cases p l with ⟨e0, P, rfl, hF⟩ | e0
  · have c0 : (chkL (P : Int) l != 0) = false := by rw [e0]; rfl
    have HS := Lib.hid (show sgS (P : Int) l = (fullL (sgF P l) l.length, 0) by unfold sgS; rw [if_pos e0]; rfl)
    have h1 := hF.l1
    have h2 := hF.l64
    have h4 := hF.le
    have HF := Lib.hid hF
    clear e0 hF
    obtain ⟨i0, hi0, hz0, hz1, hz2⟩ := info_int64
    have hmk := mk_row (P := Try.prog) 22 2 Try.underlying22 hi0 hz0 hz1 hz2 (encI .i64) (encI_len .i64) (by omega) 0 rfl l.length (by omega) (by omega)
    go_enter Try.func15, Try.ntmps15
    go_wp2_with fail
    refine (chkF_any _ _ _ _ _ hx hl (by omega) (by omega)).mono ?_
    rintro _ w1 ⟨rfl, hb1⟩
    go_wp2
    go_loopg [21] l.length (fun gk i wr => ∃ k : Nat, k + gk = l.length ∧ i = .int .i64 k ∧ Blk wr w1.heap.size 2 ((partL (sgF P l) 0 l.length k).flatMap (encI .i64)).toArray ∧ Below w1.heap.size w1 wr)
    case atStart => exact ⟨0, by omega, rfl, by rw [partL_start]; exact Blk.new w1 2 _, balloc (Below.refl _ _) _⟩
    case round =>
      obtain ⟨k, hk, rfl, hO, hb⟩ := hrel
      have hk' : k ≤ l.length := by omega
      have HK := Lib.hid hk
      clear hk hmk
      by_cases hlt : k < l.length
      · obtain ⟨b1, off1, rfl, hlw1, hc1⟩ := ((hx.keep hb1).keep hb).at2 hlt
        have bx := HF.out.el k hlt
        have o0 := blkI_at hO (j := k) (by rw [partL_len]; exact hlt)
        have of0 := hO.frozen k
        have hgl := hO.lt
        have HN := Lib.hid (show sgF P l k = if (P : Int) < 2 * l.getD k 0 then l.getD k 0 - P else l.getD k 0 from rfl)
        generalize l.getD k 0 = X at *
        by_cases h2x : (P : Int) < 2 * X
        · have d1 : decide ((P : Int) < 2 * X) = true := decide_eq_true h2x
          have HM := Lib.hid (partL_set (sgF P l) 0 l.length k (X - P) (by rw [HN.out, if_pos h2x]))
          clear h2x
          go_wp2
          go_roundg (gk - 1)
          case rel => exact ⟨k + 1, by have := HK.out; omega, by go_num, by rw [← HM.out]; exact blkI_set hO (by rw [partL_len]; exact hlt) _, hb.setCell (p := ⟨w1.heap.size, k, none⟩) (Nat.le_refl _) _⟩
          case measure => have := HK.out; omega
        · have d1 : decide ((P : Int) < 2 * X) = false := decide_eq_false h2x
          have HM := Lib.hid (partL_set (sgF P l) 0 l.length k X (by rw [HN.out, if_neg h2x]))
          clear h2x
          go_wp2
          go_roundg (gk - 1)
          case rel => exact ⟨k + 1, by have := HK.out; omega, by go_num, by rw [← HM.out]; exact blkI_set hO (by rw [partL_len]; exact hlt) _, hb.setCell (p := ⟨w1.heap.size, k, none⟩) (Nat.le_refl _) _⟩
          case measure => have := HK.out; omega
      · rw [partL_end _ _ _ _ (by omega)] at hO
        go_wp2
        go_ret2
        exact RetFE.own HS.out (fullL_len _ _) (blk_RI hO) (bstep hb1 hb)
  · have c0 : (chkL p l != 0) = true := by rw [bne_iff_ne]; exact e0
    have HS := Lib.hid (show sgS p l = ([], chkL p l) by unfold sgS; rw [if_neg e0])
    clear e0
    go_enter Try.func15, Try.ntmps15
    go_wp2_with fail
    refine (chkF_any _ _ _ _ _ hx hl hp1 hp2).mono ?_
    rintro _ w1 ⟨rfl, hb1⟩
    go_wp2
    go_ret2
    exact RetFE.no HS.out hb1

/-! reducing -/
def rdF (P : Nat) (l : List Int) (k : Nat) : Int := l.getD k 0 % (P : Int)
noncomputable def rdS (p : Int) (l : List Int) : List Int × Int :=
  if okP p = true then (if 1000 < l.length then ([], 4) else if l.any (fun x => decide (x < -p ∨ p < x)) = true then ([], 8) else (fullL (rdF p.toNat l) l.length, 0)) else ([], 2)
theorem any2_false {l : List Int} {p : Int} (h : ∀ j, j < l.length → -p ≤ l.getD j 0 ∧ l.getD j 0 ≤ p) : l.any (fun x => decide (x < -p ∨ p < x)) = false := by
  rw [List.any_eq_false]
  intro x hx
  obtain ⟨j, hj, e⟩ := List.getElem_of_mem hx
  have := h j hj
  rw [getD_lt _ _ hj, e] at this
  simp; omega
theorem any2_true {l : List Int} {p : Int} {k : Nat} (hk : k < l.length) (h : l.getD k 0 < -p ∨ p < l.getD k 0) : l.any (fun x => decide (x < -p ∨ p < x)) = true := by
  rw [List.any_eq_true]
  rw [getD_lt _ _ hk] at h
  exact ⟨l[k], List.getElem_mem hk, by simpa using h⟩
set_option maxHeartbeats 1000000 in
theorem reduce_any (p : Int) (A : Option Addr) (c : Nat) (l : List Int) (w : World) (hx : RI .i64 w A l) (hl : l.length ≤ 9223372036854775807) (hp1 : -9223372036854775808 ≤ p) (hp2 : p ≤ 9223372036854775807) :
    Calls Try.prog 17 #[.int .i64 p, .slice A l.length c] w (RetFE w (rdS p l)) := by
  rcases ok_cases p with ⟨e0, e1, P, rfl, h2, h3, hP⟩ | ⟨e0, e1⟩
  · have c0 : (chkE (P : Int) != 0) = false := by rw [e0]; rfl
    clear e0 hP
    by_cases hlen : 1000 < l.length
    · have d1 : decide (1000 < l.length) = true := decide_eq_true hlen
      have HS := Lib.hid (show rdS (P : Int) l = ([], 4) by unfold rdS; rw [if_pos e1, if_pos hlen])
      go_enter Try.func17, Try.ntmps17
      go_wp2_with fail
      refine (ringCheck_any _ _ (by omega) (by omega)).mono ?_
      rintro _ w1 ⟨rfl, hb1⟩
      go_wp2
      go_ret2
      exact RetFE.no HS.out hb1
    · have d1 : decide (1000 < l.length) = false := decide_eq_false hlen
      obtain ⟨i0, hi0, hz0, hz1, hz2⟩ := info_int64
      have hmk := mk_row (P := Try.prog) 22 2 Try.underlying22 hi0 hz0 hz1 hz2 (encI .i64) (encI_len .i64) (by omega) 0 rfl l.length (by omega) (by omega)
      go_enter Try.func17, Try.ntmps17
      go_wp2_with fail
      refine (ringCheck_any _ _ (by omega) (by omega)).mono ?_
      rintro _ w1 ⟨rfl, hb1⟩
      go_wp2
      go_loopg [23] l.length (fun gk i wr => ∃ k : Nat, k + gk = l.length ∧ i = .int .i64 k ∧ Blk wr w1.heap.size 2 ((partL (rdF P l) 0 l.length k).flatMap (encI .i64)).toArray ∧ Below w1.heap.size w1 wr ∧ Hid (∀ j, j < k → -(P : Int) ≤ l.getD j 0 ∧ l.getD j 0 ≤ P))
      case atStart => exact ⟨0, by omega, rfl, by rw [partL_start]; exact Blk.new w1 2 _, balloc (Below.refl _ _) _, Lib.hid (by intro j hj; omega)⟩
      case round =>
        obtain ⟨k, hk, rfl, hO, hb, HA⟩ := hrel
        have hk' : k ≤ l.length := by omega
        have HK := Lib.hid hk
        clear hk hmk
        by_cases hlt : k < l.length
        · obtain ⟨b1, off1, rfl, hlw1, hc1⟩ := ((hx.keep hb1).keep hb).at2 hlt
          have o0 := blkI_at hO (j := k) (by rw [partL_len]; exact hlt)
          have of0 := hO.frozen k
          have hgl := hO.lt
          have HB := Lib.hid (fun (h : l.getD k 0 < -(P : Int) ∨ (P : Int) < l.getD k 0) => show rdS (P : Int) l = ([], 8) by
            unfold rdS; rw [if_pos e1, if_neg hlen, if_pos (any2_true hlt h)])
          have HG := Lib.hid (fun (h : -(P : Int) ≤ l.getD k 0 ∧ l.getD k 0 ≤ P) => show ∀ j, j < k + 1 → -(P : Int) ≤ l.getD j 0 ∧ l.getD j 0 ≤ P from all_lt_succ HA.out h)
          have HN := Lib.hid (show l.getD k 0 % (P : Int) = rdF P l k from rfl)
          generalize l.getD k 0 = x at *
          rcases (show x < -(P : Int) ∨ (-(P : Int) ≤ x ∧ (P : Int) < x) ∨ (-(P : Int) ≤ x ∧ x ≤ P) by omega) with hx1 | ⟨hx1, hx2⟩ | ⟨hx1, hx2⟩
          · have HE := Lib.hid (HB.out (by omega))
            go_wp2
            go_ret2
            exact RetFE.no HE.out (bstep hb1 hb)
          · have HE := Lib.hid (HB.out (by omega))
            go_wp2
            go_ret2
            exact RetFE.no HE.out (bstep hb1 hb)
          · have HE := Lib.hid (HG.out (by omega))
            have HM := Lib.hid (partL_set (rdF P l) 0 l.length k (x % (P : Int)) HN.out)
            go_wp2
            go_roundg (gk - 1)
            case rel => exact ⟨k + 1, by have := HK.out; omega, by go_num, by rw [← HM.out]; exact blkI_set hO (by rw [partL_len]; exact hlt) _, hb.setCell (p := ⟨w1.heap.size, k, none⟩) (Nat.le_refl _) _, HE⟩
            case measure => have := HK.out; omega
        · rw [partL_end _ _ _ _ (by omega)] at hO
          have HS := Lib.hid (show rdS (P : Int) l = (fullL (rdF P l) l.length, 0) by
            unfold rdS; rw [if_pos e1, if_neg hlen, any2_false (fun j hj => HA.out j (by omega))]; rfl)
          go_wp2
          go_ret2
          exact RetFE.own HS.out (fullL_len _ _) (blk_RI hO) (bstep hb1 hb)
  · have c0 : (chkE p != 0) = true := by rw [e0]; rfl
    have HS := Lib.hid (show rdS p l = ([], chkE p) by unfold rdS; rw [e1, e0]; rfl)
    clear e0
    go_enter Try.func17, Try.ntmps17
    go_wp2_with fail
    refine (ringCheck_any _ _ hp1 hp2).mono ?_
    rintro _ w1 ⟨rfl, hb1⟩
    go_wp2
    go_ret2
    exact RetFE.no HS.out hb1
end Go.Proofs.Ytdcacklochaljaa
