/-
  Contracts: fourier.powers, fourier.transform, fourier.within, fringeref11.at.
-/
import Derived.Test.YtdcacklochaljaaFouA
namespace Go.Proofs.Ytdcacklochaljaa
open Go.RowKit Num
set_option linter.unusedVariables false

def pwF (P R : Nat) (j : Nat) : Int := ((R ^ j % P : Nat) : Int)
theorem pwF_bd {P R : Nat} (h : 0 < P) (j : Nat) : 0 ≤ pwF P R j ∧ pwF P R j < P := by
  unfold pwF
  have := Nat.mod_lt (R ^ j) h
  omega
/-- a new slice of numbers -/
def RetK (w : World) (l : List Int) (e : Ending) (w' : World) : Prop :=
  ∃ g, e = .returned (.slice (some ⟨g, 0, none⟩) l.length l.length) ∧ w.heap.size ≤ g ∧ Blk w' g 2 (l.flatMap (encI .i64)).toArray ∧ Below w.heap.size w w'

theorem powers_any (P R n : Nat) (w : World) (hP : 2 ≤ P) (hP2 : P ≤ 2000000000) (hR : R < P) (hn : n ≤ 1000) :
    Calls Try.prog 34 #[.int .i64 P, .int .i64 R, .int .i64 n] w (RetK w (fullL (pwF P R) n)) := by
  obtain ⟨i0, hi0, hz0, hz1, hz2⟩ := info_int64
  have hmk := mk_row (P := Try.prog) 22 2 Try.underlying22 hi0 hz0 hz1 hz2 (encI .i64) (encI_len .i64) (by omega) 0 rfl n (by omega) (by omega)
  go_enter Try.func34, Try.ntmps34
  go_wp2
  go_loopg [8, 14] n (fun gk x i wr => ∃ (k X : Nat), k + gk = n ∧ x = .int .i64 X ∧ i = .int .i64 k ∧ X < P ∧ Hid (X = R ^ k % P) ∧ Blk wr w.heap.size 2 ((partL (pwF P R) 0 n k).flatMap (encI .i64)).toArray ∧ Below w.heap.size w wr)
  case atStart => exact ⟨0, 1, by omega, rfl, rfl, by omega, Lib.hid (by rw [Nat.pow_zero]; exact (Nat.mod_eq_of_lt (by omega)).symm), by rw [partL_start]; exact Blk.new w 2 _, balloc (Below.refl _ _) _⟩
  case round =>
    obtain ⟨k, X, hk, rfl, rfl, hX, HX, hO, hb⟩ := hrel
    have hk' : k ≤ n := by omega
    have HK := Lib.hid hk
    clear hk hmk
    by_cases hlt : k < n
    · have f1 := mul_wrap (x := X) (y := R) (by omega) (by omega)
      have o0 := blkI_at hO (j := k) (by rw [partL_len]; exact hlt)
      have of0 := hO.frozen k
      have hgl := hO.lt
      have HX2 := Lib.hid (show X * R % P = R ^ (k + 1) % P by rw [HX.out, Nat.pow_succ, Nat.mod_mul_mod])
      have HS := Lib.hid (partL_set (pwF P R) 0 n k (X : Int) (by unfold pwF; rw [← HX.out]))
      go_wp2
      go_roundg (gk - 1)
      case rel => exact ⟨k + 1, X * R % P, by have := HK.out; omega, rfl, by go_num, Nat.mod_lt _ (by omega), HX2, by rw [← HS.out]; exact blkI_set hO (by rw [partL_len]; exact hlt) _, hb.setCell (p := ⟨w.heap.size, k, none⟩) (Nat.le_refl _) _⟩
      case measure => have := HK.out; omega
    · rw [partL_end _ _ _ _ (by omega)] at hO
      go_wp2
      go_ret
      exact ⟨_, by rw [fullL_len]; rfl, Nat.le_refl _, hO, hb⟩

/-- the sum of f 0 to f (n - 1), reduced at each step -/
def sumM (p : Int) (f : Nat → Int) : Nat → Int
  | 0 => 0
  | j + 1 => (sumM p f j + f j) % p
theorem sumM_bd {p : Int} (hp : 0 < p) (f : Nat → Int) (n : Nat) : 0 ≤ sumM p f n ∧ sumM p f n < p := by
  cases n with
  | zero => exact ⟨Int.le_refl 0, hp⟩
  | succ n => exact ⟨Int.emod_nonneg _ (by omega), Int.emod_lt_of_pos _ hp⟩
theorem sumM_congr {p : Int} {f g : Nat → Int} {n : Nat} (h : ∀ j, j < n → f j = g j) : sumM p f n = sumM p g n := by
  induction n with
  | zero => rfl
  | succ n ih => show (sumM p f n + f n) % p = (sumM p g n + g n) % p; rw [ih (fun j hj => h j (by omega)), h n (by omega)]
/-- the k-th number of a transform with the list pw of powers -/
def trF (P : Nat) (l : List Int) (pw : Nat → Int) (k : Nat) : Int := sumM (P : Int) (fun j => l.getD j 0 * pw (j * k % l.length)) l.length
theorem fit_mul {P : Nat} {x y s : Int} (hP : P ≤ 2000000000) (hx : 0 ≤ x ∧ x < P) (hy : 0 ≤ y ∧ y < P) : 0 ≤ x * y ∧ x * y ≤ 4000000000000000000 := by
  have h1 : 0 ≤ x * y := Int.mul_nonneg hx.1 hy.1
  have h2 : x * y ≤ (2000000000 : Int) * 2000000000 := Int.mul_le_mul (by omega) (by omega) hy.1 (by omega)
  exact ⟨h1, by omega⟩

theorem partL_zero {f : Nat → Int} {n k : Nat} (h : k < n) : (partL f 0 n k).set k 0 = partL f 0 n k := by
  apply List.ext_getElem (by simp [partL])
  intro i h1 h2
  simp only [partL, List.getElem_set, List.getElem_map, List.getElem_range]
  by_cases e : k = i
  · subst e; rw [if_pos rfl, if_neg (by omega)]
  · rw [if_neg e]
set_option maxHeartbeats 1000000 in
theorem transform_any (P : Nat) (A B : Option Addr) (c d : Nat) (l : List Int) (pw : Nat → Int) (w : World) (hP : 2 ≤ P) (hP2 : P ≤ 2000000000) (hx : RI .i64 w A l) (hy : RI .i64 w B (fullL pw l.length)) (h1 : 1 ≤ l.length) (hl : l.length ≤ 64)
    (hb1 : ∀ j, j < l.length → 0 ≤ l.getD j 0 ∧ l.getD j 0 < P) (hb2 : ∀ j, j < l.length → 0 ≤ pw j ∧ pw j < P) :
    Calls Try.prog 39 #[.int .i64 P, .slice A l.length c, .slice B l.length d] w (RetK w (fullL (trF P l pw) l.length)) := by
  obtain ⟨i0, hi0, hz0, hz1, hz2⟩ := info_int64
  have hmk := mk_row (P := Try.prog) 22 2 Try.underlying22 hi0 hz0 hz1 hz2 (encI .i64) (encI_len .i64) (by omega) 0 rfl l.length (by omega) (by omega)
  have HB1 := Lib.hid hb1
  have HB2 := Lib.hid hb2
  clear hb1 hb2
  go_enter Try.func39, Try.ntmps39
  go_wp2
  go_loopg [16] l.length (fun gk i wr => ∃ (k : Nat), k + gk = l.length ∧ i = .int .i64 k ∧ Blk wr w.heap.size 2 ((partL (trF P l pw) 0 l.length k).flatMap (encI .i64)).toArray ∧ Below w.heap.size w wr)
  case atStart => exact ⟨0, by omega, rfl, by rw [partL_start]; exact Blk.new w 2 _, balloc (Below.refl _ _) _⟩
  case round =>
    obtain ⟨k, hk, rfl, hO, hb⟩ := hrel
    have hk' : k ≤ l.length := by omega
    have HK := Lib.hid hk
    clear hk hmk
    by_cases hlt : k < l.length
    · obtain ⟨gu, hgu⟩ : ∃ gu, gu = gk := ⟨gk, rfl⟩
      have HGU := Lib.hid hgu
      clear hgu
      go_wp2
      go_loopg [21] l.length (fun gk i wr => ∃ (j : Nat) (s : Int), j + gk = l.length ∧ i = .int .i64 j ∧ 0 ≤ s ∧ s < P ∧ Hid (s = sumM (P : Int) (fun j => l.getD j 0 * pw (j * k % l.length)) j) ∧ Blk wr w.heap.size 2 (((partL (trF P l pw) 0 l.length k).set k s).flatMap (encI .i64)).toArray ∧ Below w.heap.size w wr)
      case atStart => exact ⟨0, 0, by omega, rfl, by omega, by omega, Lib.hid rfl, by rw [show (partL (trF P l pw) 0 l.length k).set k 0 = partL (trF P l pw) 0 l.length k from partL_zero hlt]; exact hO, hb⟩
      case round =>
        obtain ⟨j, s, hj, rfl, hs1, hs2, HS, hO2, hb2⟩ := hrel
        have hj' : j ≤ l.length := by omega
        have HJ := Lib.hid hj
        clear hj
        by_cases hlt2 : j < l.length
        · obtain ⟨b1, off1, rfl, hlw1, hc1⟩ := (hx.keep hb2).at2 hlt2
          have hm : j * k % l.length < l.length := Nat.mod_lt _ (by omega)
          have hjk : j * k ≤ 64 * 64 := Nat.mul_le_mul (by omega) (by omega)
          obtain ⟨b2, off2, rfl, hlw2, hc2⟩ := (hy.keep hb2).at2 (i := j * k % l.length) (by rw [fullL_len]; exact hm)
          rw [fullL_getD _ _ _ _ hm] at hc2
          have bx := HB1.out j hlt2
          have by' := HB2.out _ hm
          have HN := Lib.hid (show sumM (P : Int) (fun j => l.getD j 0 * pw (j * k % l.length)) (j + 1) = (s + l.getD j 0 * pw (j * k % l.length)) % P by rw [HS.out]; rfl)
          have o0 := blkI_at hO2 (j := k) (by rw [List.length_set, partL_len]; exact hlt)
          rw [getD_lt _ _ (by rw [List.length_set, partL_len]; exact hlt), List.getElem_set_self] at o0
          have of0 := hO2.frozen k
          have hgl := hO2.lt
          have hw1 : IntKind.i64.wrap ((j : Int) * (k : Int)) = ((j * k : Nat) : Int) := mul_wrap (by omega) (by omega)
          generalize j * k = jk at *
          generalize hM : jk % l.length = m at *
          have hM2 : (jk : Int) % (l.length : Int) = (m : Int) := by rw [← Int.natCast_emod, hM]
          clear hM
          generalize l.getD j 0 = X at *
          generalize pw m = Y at *
          have fm := fit_mul (s := s) hP2 bx by'
          obtain ⟨Z, hZ⟩ : ∃ Z, Z = X * Y := ⟨_, rfl⟩
          have hw2 : IntKind.i64.wrap (X * Y) = Z := by rw [IntWalk.i64_in _ (by omega), hZ]
          rw [← hZ] at HN fm
          clear hZ
          have hpos : 0 < (P : Int) := by omega
          have r1 := Int.emod_nonneg (s + Z) (show (P : Int) ≠ 0 by omega)
          have r2 := Int.emod_lt_of_pos (s + Z) hpos
          have HI := Lib.hid (blkI_set hO2 (by rw [List.length_set, partL_len]; exact hlt) ((s + Z) % P))
          go_wp2
          all_goals
            go_region
            all_goals go_wp2
            all_goals
              go_roundg (gk - 1)
              case rel => exact ⟨j + 1, (s + Z) % P, by have := HJ.out; omega, by go_num, r1, r2, Lib.hid HN.out.symm, by have h := HI.out; rw [List.set_set] at h; exact h, (hb2.setCell (p := ⟨w.heap.size, k, none⟩) (Nat.le_refl _) _).drew⟩
              case measure => have := HJ.out; omega
        · have hfin : s = trF P l pw k := by rw [HS.out, show j = l.length by omega]; rfl
          rw [partL_set _ _ _ _ _ hfin] at hO2
          clear hfin
          go_wp2
          go_roundg (gu - 1)
          case rel => exact ⟨k + 1, by have := HK.out; have := HGU.out; omega, by go_num, hO2, hb2⟩
          case measure => have := HK.out; have := HGU.out; omega
    · rw [partL_end _ _ _ _ (by omega)] at hO
      go_wp2
      go_ret
      exact ⟨_, by rw [fullL_len]; rfl, Nat.le_refl _, hO, hb⟩
end Go.Proofs.Ytdcacklochaljaa
