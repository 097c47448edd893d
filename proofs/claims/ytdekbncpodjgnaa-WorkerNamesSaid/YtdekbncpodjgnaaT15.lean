/-
  Parts of the proof of WorkerNames: WkP.
-/
import Derived.Test.YtdekbncpodjgnaaT03
import Derived.Test.YtdekbncpodjgnaaT08
namespace Go.Proofs.Ytdekbncpodjgnaa
open Go.RowKit Runs Lagc
set_option linter.unusedVariables false
set_option linter.unusedSimpArgs false
namespace Wk
open Lagw
theorem nz_01 (x : Int) : nz x = 0 ∨ nz x = 1 := by unfold nz; split <;> simp
theorem cnt_01 (xs ys : List Int) (i k : Nat) : 0 ≤ cntF xs ys i k ∧ cntF xs ys i k ≤ 1 := by
 unfold cntF
 rcases nz_01 (xs.getD i 0) with h | h <;> rcases nz_01 (ys.getD k 0) with h2 | h2 <;> rw [h, h2] <;> decide
theorem prod_cnt {xs ys : List Int} (hx : streamErr xs = 0) (hy : streamErr ys = 0) (i k : Nat) : -(9 * cntF xs ys i k) ≤ prodF xs ys i k ∧ prodF xs ys i k ≤ 9 * cntF xs ys i k ∧ (prodF xs ys i k - cntF xs ys i k) % 2 = 0 := by
 unfold prodF cntF
 rcases stream_at hx i with h | h | h | h | h <;> rcases stream_at hy k with h2 | h2 | h2 | h2 | h2 <;> rw [h, h2] <;> decide
theorem sumR_even {f : Nat → Int} {n : Nat} (h : ∀ i, i < n → f i % 2 = 0) : sumR f n % 2 = 0 := by
 induction n with
 | zero => rfl
 | succ n ih => rw [sumR_succ]; have := ih (fun i hi => h i (by omega)); have := h n (by omega); omega
theorem lagCells_ok {xs ys : List Int} (hx : streamErr xs = 0) (hy : streamErr ys = 0) {m : Nat} : ∀ x ∈ lagCells xs ys m, okLag x = true := by
 intro x hxm
 obtain ⟨t, ht, rfl⟩ := List.mem_iff_getElem.1 hxm
 rw [lagCells_len] at ht
 have e := lagCells_at (xs := xs) (ys := ys) ht
 rw [getD_lt _ _ (by rw [lagCells_len]; exact ht)] at e
 rw [e]
 simp only [okLag, decide_eq_true_eq]
 have hlx := (streamErr_zero hx).1
 have c0 : ∀ i : Nat, 0 ≤ sumR (fun k => if (k : Int) - i = (t : Int) - m then cntF xs ys i k else 0) ys.length ∧ sumR (fun k => if (k : Int) - i = (t : Int) - m then cntF xs ys i k else 0) ys.length ≤ 1 := by
  intro i
  rw [inner_one]
  split
  ·exact cnt_01 xs ys _ _
  ·omega
 have e2 : ∀ (a b : Int), sumR (fun _ => (a : Int)) xs.length = xs.length * a := fun a _ => sumR_const a _
 have lo : 0 ≤ pairSum (cntF xs ys) xs.length ys.length ((t : Int) - m) := by
  have := sumR_le (f := fun _ => 0) (n := xs.length) (fun i hi => (c0 i).1)
  rw [e2 0 0] at this
  unfold pairSum
  simpa using this
 have hi : pairSum (cntF xs ys) xs.length ys.length ((t : Int) - m) ≤ 256 := by
  have := sumR_le (g := fun _ => 1) (n := xs.length) (fun i hi => (c0 i).2)
  rw [e2 1 0] at this
  unfold pairSum
  omega
 have l1 : pairSum (prodF xs ys) xs.length ys.length ((t : Int) - m) ≤ 9 * pairSum (cntF xs ys) xs.length ys.length ((t : Int) - m) := by
  unfold pairSum
  rw [← sumR_mul]
  refine sumR_le (fun i hi => ?_)
  rw [← sumR_mul]
  refine sumR_le (fun k hk => ?_)
  have := prod_cnt hx hy i k
  split <;> omega
 have l2 : -9 * pairSum (cntF xs ys) xs.length ys.length ((t : Int) - m) ≤ pairSum (prodF xs ys) xs.length ys.length ((t : Int) - m) := by
  unfold pairSum
  rw [← sumR_mul]
  refine sumR_le (fun i hi => ?_)
  rw [← sumR_mul]
  refine sumR_le (fun k hk => ?_)
  have := prod_cnt hx hy i k
  split <;> omega
 have par : (pairSum (prodF xs ys) xs.length ys.length ((t : Int) - m) - pairSum (cntF xs ys) xs.length ys.length ((t : Int) - m)) % 2 = 0 := by
  have h1 : pairSum (prodF xs ys) xs.length ys.length ((t : Int) - m) - pairSum (cntF xs ys) xs.length ys.length ((t : Int) - m) = sumR (fun i => sumR (fun k => (if (k : Int) - i = (t : Int) - m then prodF xs ys i k else 0) + -1 * (if (k : Int) - i = (t : Int) - m then cntF xs ys i k else 0)) ys.length) xs.length := by
   unfold pairSum
   have h2 : ∀ i : Nat, sumR (fun k => (if (k : Int) - i = (t : Int) - m then prodF xs ys i k else 0) + -1 * (if (k : Int) - i = (t : Int) - m then cntF xs ys i k else 0)) ys.length = sumR (fun k => if (k : Int) - i = (t : Int) - m then prodF xs ys i k else 0) ys.length + -1 * sumR (fun k => if (k : Int) - i = (t : Int) - m then cntF xs ys i k else 0) ys.length := by
    intro i
    rw [sumR_add, sumR_mul]
   rw [sumR_congr (fun i _ => h2 i), sumR_add, sumR_mul]
   omega
  rw [h1]
  refine sumR_even (fun i hi => sumR_even (fun k hk => ?_))
  have := prod_cnt hx hy i k
  split <;> omega
 exact ⟨lo, hi, l2, l1, par⟩
theorem lagErr_cells {xs ys : List Int} (hx : streamErr xs = 0) (hy : streamErr ys = 0) {m : Nat} (hm : m ≤ 255) : lagErr (lagCells xs ys m) = 0 :=
 lagErr_ok (by rw [lagCells_len]; omega) (by rw [lagCells_len]; omega) (lagCells_ok hx hy)
def sumD (f : Nat → Int) : List Bool → Nat → Int
 | [], _ => 0
 | x :: d, b => (bif x then f b else 0) + sumD f d (b + 1)
theorem sumD_set (f : Nat → Int) : ∀ (d : List Bool) (b k : Nat), d.getD k true = false → sumD f (d.set k true) b = sumD f d b + f (b + k) := by
 intro d
 induction d with
 | nil => intro b k h; simp at h
 | cons x d ih =>
  intro b k h
  cases k with
  | zero =>
   simp at h
   subst h
   simp [sumD]
   omega
  | succ k =>
   have h' : d.getD k true = false := by simpa using h
   rw [List.set_cons_succ]
   simp only [sumD]
   rw [ih (b + 1) k h', show b + 1 + k = b + (k + 1) by omega]
   omega
theorem sumD_bd {f : Nat → Int} {lo hi : Int} (h0 : lo ≤ 0) (h1 : 0 ≤ hi) : ∀ (d : List Bool) (b : Nat), (∀ k, lo ≤ f k ∧ f k ≤ hi) → lo * (d.length : Int) ≤ sumD f d b ∧ sumD f d b ≤ hi * (d.length : Int) := by
 intro d
 induction d with
 | nil => intro b _; simp [sumD]
 | cons x d ih =>
  intro b h
  have h2 := ih (b + 1) h
  have h3 := h b
  rw [List.length_cons, Int.natCast_add, Int.mul_add, Int.mul_add]
  simp only [sumD]
  cases x <;> simp <;> omega
theorem sumD_none (f : Nat → Int) : ∀ (n b : Nat), sumD f (List.replicate n false) b = 0 := by
 intro n
 induction n with
 | zero => intro b; rfl
 | succ n ih => intro b; rw [List.replicate_succ]; simp [sumD, ih]
structure Job (xs ys : List Int) (M S : Nat) : Prop where
 x : streamErr xs = 0
 y : streamErr ys = 0
 m : M ≤ 255
 s : 1 ≤ S
 s2 : S ≤ 256
 c : cdiv xs.length S ≤ 64
theorem Job.lx {xs ys : List Int} {M S : Nat} (h : Job xs ys M S) : xs.length ≤ 256 := (streamErr_zero h.x).1
def lagB (xs ys : List Int) (M S b : Nat) : List (Int × Int) := lagCells (ownL xs S b) ys M
def manyB (n S b : Nat) : Nat := min ((b + 1) * S) n - b * S
theorem lagB_len (xs ys : List Int) (M S b : Nat) : (lagB xs ys M S b).length = 2 * M + 1 := lagCells_len _ _ _
theorem lagB_err {xs ys : List Int} {M S : Nat} (h : Job xs ys M S) (b : Nat) : lagErr (lagB xs ys M S b) = 0 := lagErr_cells (own_stream h.x S b) h.y h.m
theorem lagB_bd {xs ys : List Int} {M S : Nat} (h : Job xs ys M S) (b k : Nat) : (-2304 ≤ ((lagB xs ys M S b).getD k (0, 0)).1 ∧ ((lagB xs ys M S b).getD k (0, 0)).1 ≤ 2304) ∧ 0 ≤ ((lagB xs ys M S b).getD k (0, 0)).2 ∧ ((lagB xs ys M S b).getD k (0, 0)).2 ≤ 256 := by
 by_cases hk : k < (lagB xs ys M S b).length
 ·have := okLag_bd ((lagErr_zero (lagB_err h b)).2.2 _ (getD_mem (d := (0, 0)) hk))
  omega
 ·have e : (lagB xs ys M S b).getD k (0, 0) = (0, 0) := by
   rw [List.getD_eq_getElem?_getD, List.getElem?_eq_none (by omega)]; rfl
  rw [e]; decide
theorem manyB_bd {n S b : Nat} (hS : 1 ≤ S) (hS2 : S ≤ 256) (hb : b * S < n) : 1 ≤ manyB n S b ∧ manyB n S b ≤ 256 ∧ b * S + manyB n S b ≤ n ∧ manyB n S b ≤ S := by
 unfold manyB
 rw [Nat.succ_mul]
 omega
theorem block_one {S b c t : Nat} (h1 : b * S ≤ t) (h2 : t < (c + 1) * S) : b ≤ c := by
 rcases Nat.lt_or_ge c b with h | h
 ·have := Nat.mul_le_mul_right S (show c + 1 ≤ b from h)
  omega
 ·exact h
structure Is (xs ys : List Int) (M S : Nat) (a : Acc) (d : List Bool) : Prop where
 fine : Fine a
 len : a.s.length = 2 * M + 1
 vs : ∀ k, k < 2 * M + 1 → val (a.s.getD k (0, 0)) = sumD (fun b => ((lagB xs ys M S b).getD k (0, 0)).1) d 0
 vn : ∀ k, k < 2 * M + 1 → val (a.n.getD k (0, 0)) = sumD (fun b => ((lagB xs ys M S b).getD k (0, 0)).2) d 0
 mem : ∀ t, mem a.g t ↔ ∃ b : Nat, d.getD b false = true ∧ ((b * S : Nat) : Int) ≤ t ∧ t < ((b * S + manyB xs.length S b : Nat) : Int)
 few : (a.g.length : Int) ≤ sumD (fun _ => 1) d 0
theorem val_inj {a b : List (Int × Int)} (hl : a.length = b.length) (ha : ∀ x ∈ a, 0 ≤ x.2 ∧ x.2 < 1000000000) (hb : ∀ x ∈ b, 0 ≤ x.2 ∧ x.2 < 1000000000) (h : ∀ k, k < a.length → val (a.getD k (0, 0)) = val (b.getD k (0, 0))) : a = b := by
 refine List.ext_getElem hl fun k h1 h2 => ?_
 have e := h k h1
 rw [getD_lt _ _ h1, getD_lt _ _ h2] at e
 have e1 := ha _ (List.getElem_mem h1)
 have e2 := hb _ (List.getElem_mem h2)
 rw [← cnt_val e1.1 e1.2, ← cnt_val e2.1 e2.2, e]
theorem Is.uniq {xs ys : List Int} {M S : Nat} {a b : Acc} {d : List Bool} (h : Is xs ys M S a d) (h' : Is xs ys M S b d) : a = b := by
 have e1 : a.s = b.s := val_inj (by rw [h.len, h'.len]) (fun x hx => ⟨(h.fine.s x hx).1, (h.fine.s x hx).2.1⟩) (fun x hx => ⟨(h'.fine.s x hx).1, (h'.fine.s x hx).2.1⟩) (fun k hk => by rw [h.len] at hk; rw [h.vs k hk, h'.vs k hk])
 have e2 : a.n = b.n := val_inj (by rw [h.fine.ln, h'.fine.ln, h.len, h'.len]) (fun x hx => ⟨(h.fine.n x hx).1, (h.fine.n x hx).2.1⟩) (fun x hx => ⟨(h'.fine.n x hx).1, (h'.fine.n x hx).2.1⟩) (fun k hk => by rw [h.fine.ln, h.len] at hk; rw [h.vn k hk, h'.vn k hk])
 have e3 : a.g = b.g := Runs.uniq h.fine.rn h'.fine.rn (fun t => (h.mem t).trans (h'.mem t).symm)
 cases a; cases b
 simp only at e1 e2 e3
 rw [e1, e2, e3]
theorem is_new {xs ys : List Int} {M S : Nat} (h : Job xs ys M S) (n : Nat) : Is xs ys M S (newS M).1 (List.replicate n false) := by
 have hm := h.m
 have hne : newS (M : Int) = (⟨List.replicate (2 * M + 1) (0, 0), List.replicate (2 * M + 1) (0, 0), []⟩, 0) := by
  unfold newS
  rw [if_neg (by omega), Int.toNat_natCast]
 rw [hne]
 have hz : ∀ k, val ((List.replicate (2 * M + 1) ((0, 0) : Int × Int)).getD k (0, 0)) = 0 := by
  intro k
  rw [List.getD_eq_getElem?_getD, List.getElem?_replicate]
  split <;> rfl
 refine ⟨⟨by simp; omega, by simp, by simp, by simp, Rn_nil, ?_, ?_⟩, by simp, ?_, ?_, ?_, ?_⟩
 ·intro x hx
  rw [List.eq_of_mem_replicate hx]
  decide
 ·intro x hx
  rw [List.eq_of_mem_replicate hx]
  decide
 ·intro k hk
  rw [sumD_none]
  exact hz k
 ·intro k hk
  rw [sumD_none]
  exact hz k
 ·intro t
  refine ⟨fun h => absurd h (mem_nil t), ?_⟩
  rintro ⟨b, h1, _⟩
  rw [List.getD_eq_getElem?_getD, List.getElem?_replicate] at h1
  split at h1 <;> simp at h1
 ·rw [sumD_none]; simp
theorem addC_in {u v : Int × Int} (h1 : -1000000 ≤ val u + val v) (h2 : val u + val v ≤ 1000000) : inR (addC u v) = true := by
 unfold addC cnt inR
 rw [decide_eq_true_eq]
 simp only []
 omega
theorem rng_yes {a b : List (Int × Int)} (h : ∀ k, k < a.length → -1000000 ≤ val (a.getD k (0, 0)) + val (b.getD k (0, 0)) ∧ val (a.getD k (0, 0)) + val (b.getD k (0, 0)) ≤ 1000000) : rngB a b = true := by
 unfold rngB
 rw [List.all_eq_true]
 intro x hx
 obtain ⟨k, hk, rfl⟩ := fullL_mem hx
 exact addC_in (h k hk).1 (h k hk).2
theorem getD_false_lt {d : List Bool} {b : Nat} (h : d.getD b true = false) : b < d.length := by
 rcases Nat.lt_or_ge b d.length with h1 | h1
 ·exact h1
 ·rw [List.getD_eq_getElem?_getD, List.getElem?_eq_none h1] at h
  cases h
theorem getD_set_b (d : List Bool) (b c : Nat) (hb : b < d.length) : (d.set b true).getD c false = true ↔ d.getD c false = true ∨ c = b := by
 rw [List.getD_eq_getElem?_getD, List.getD_eq_getElem?_getD, List.getElem?_set]
 by_cases h : b = c
 ·subst h; simp [hb]
 ·rw [if_neg h]
  constructor
  ·exact .inl
  ·rintro (h1 | h1)
   ·exact h1
   ·exact absurd h1.symm h
theorem is_add {xs ys : List Int} {M S : Nat} (hj : Job xs ys M S) {a : Acc} {d : List Bool} (h : Is xs ys M S a d) {b : Nat} (hb : d.getD b true = false) (hin : b * S < xs.length) (hd : d.length ≤ 64) :
 ∃ r, addAcc a (lagB xs ys M S b) ((b * S : Nat) : Int) ((manyB xs.length S b : Nat) : Int) = (r, 0) ∧ Is xs ys M S r (d.set b true) := by
 have hbl := getD_false_lt hb
 have hlx := hj.lx
 obtain ⟨m1, m2, m3, m4⟩ := manyB_bd hj.s hj.s2 hin
 have hl := lagB_err hj b
 have hlen := lagB_len xs ys M S b
 have hA : addArg a (lagB xs ys M S b) ((b * S : Nat) : Int) ((manyB xs.length S b : Nat) : Int) = false := by
  unfold addArg
  rw [decide_eq_false_iff_not, hlen, h.len]
  omega
 obtain ⟨e1, hf⟩ := addAcc_fine h.fine hl hA
 have hsl : (lagAcc (lagB xs ys M S b) ((b * S : Nat) : Int) ((manyB xs.length S b : Nat) : Int)).s.length = 2 * M + 1 := by
  show (fullL _ _).length = _
  rw [fullL_len, hlen]
 have hnl : (lagAcc (lagB xs ys M S b) ((b * S : Nat) : Int) ((manyB xs.length S b : Nat) : Int)).n.length = 2 * M + 1 := by
  show (fullL _ _).length = _
  rw [fullL_len, hlen]
 have hvs : ∀ k, k < 2 * M + 1 → val ((lagAcc (lagB xs ys M S b) ((b * S : Nat) : Int) ((manyB xs.length S b : Nat) : Int)).s.getD k (0, 0)) = ((lagB xs ys M S b).getD k (0, 0)).1 := by
  intro k hk
  show val ((fullL _ _).getD k (0, 0)) = _
  rw [fullL_getD _ _ _ _ (by rw [hlen]; exact hk), val_cnt]
 have hvn : ∀ k, k < 2 * M + 1 → val ((lagAcc (lagB xs ys M S b) ((b * S : Nat) : Int) ((manyB xs.length S b : Nat) : Int)).n.getD k (0, 0)) = ((lagB xs ys M S b).getD k (0, 0)).2 := by
  intro k hk
  show val ((fullL _ _).getD k (0, 0)) = _
  rw [fullL_getD _ _ _ _ (by rw [hlen]; exact hk), val_cnt]
 have hg1 : (lagAcc (lagB xs ys M S b) ((b * S : Nat) : Int) ((manyB xs.length S b : Nat) : Int)).g = [(((b * S : Nat) : Int), ((manyB xs.length S b : Nat) : Int))] := rfl
 generalize lagAcc (lagB xs ys M S b) ((b * S : Nat) : Int) ((manyB xs.length S b : Nat) : Int) = L at *
 have hal : a.s.length = L.s.length := by rw [h.len, hsl]
 have hu : (uni a.g L.g).2 = true := by
  refine uni_true h.fine.rn hf.rn ?_
  rintro t ⟨h1, h2⟩
  rw [hg1, mem_one] at h2
  obtain ⟨c, h3, h4, h5⟩ := (h.mem t).1 h1
  unfold inG at h2
  simp only at h2
  have e : c = b := by
   have q1 := block_one (S := S) (b := c) (c := b) (t := t.toNat) (by omega) (by rw [Nat.succ_mul]; omega)
   have q2 : t.toNat < (c + 1) * S := by
    unfold manyB at h5
    rw [Nat.succ_mul] at h5 ⊢
    omega
   have q3 := block_one (S := S) (b := b) (c := c) (t := t.toNat) (by omega) q2
   omega
  subst e
  rw [List.getD_eq_getElem?_getD] at h3 hb
  rw [List.getElem?_eq_getElem hbl] at h3 hb
  simp only [Option.getD_some] at h3 hb
  rw [h3] at hb
  cases hb
 have hg := uni_good hu
 have hD : (d.length : Int) ≤ 64 := by omega
 have hr1 : rngB a.s L.s = true := by
  refine rng_yes fun k hk => ?_
  rw [h.len] at hk
  rw [h.vs k hk, hvs k hk]
  have e2 := sumD_bd (f := fun b => ((lagB xs ys M S b).getD k (0, 0)).1) (lo := -2304) (hi := 2304) (by decide) (by decide) d 0 (fun c => (lagB_bd hj c k).1)
  have e3 := (lagB_bd hj b k).1
  omega
 have hr2 : rngB a.n L.n = true := by
  refine rng_yes fun k hk => ?_
  rw [h.fine.ln, h.len] at hk
  rw [h.vn k hk, hvn k hk]
  have e2 := sumD_bd (f := fun b => ((lagB xs ys M S b).getD k (0, 0)).2) (lo := 0) (hi := 256) (by decide) (by decide) d 0 (fun c => (lagB_bd hj c k).2)
  have e3 := (lagB_bd hj b k).2
  omega
 have hset := sumD_set (fun _ => 1) d 0 b hb
 have hcnt := sumD_bd (f := fun _ => 1) (lo := 0) (hi := 1) (by decide) (by decide) (d.set b true) 0 (fun _ => by decide)
 rw [List.length_set] at hcnt
 have hlen2 : ((uni a.g L.g).1.length : Int) ≤ sumD (fun _ => 1) (d.set b true) 0 := by
  have e2 := hg.len
  have e3 : L.g.length = 1 := by rw [hg1]; rfl
  have e4 := h.few
  omega
 have hmrg : mrg a L = (⟨addL a.s L.s, addL a.n L.n, (uni a.g L.g).1⟩, 0) := by
  unfold mrg
  rw [if_neg (by rw [hu]; simp), if_neg (by rw [hr1, hr2]; simp), if_neg (by omega)]
 have hfin := mrg_fine h.fine hf hal (by rw [hmrg])
 rw [hmrg] at hfin
 refine ⟨⟨addL a.s L.s, addL a.n L.n, (uni a.g L.g).1⟩, by rw [e1, mergeS_fine h.fine hf hal, hmrg], ⟨hfin, by rw [addL_len]; exact h.len, ?_, ?_, ?_, hlen2⟩⟩
 ·intro k hk
  rw [val_addL (by rw [h.len]; exact hk), sumD_set _ d 0 b hb, h.vs k hk, hvs k hk, Nat.zero_add]
 ·intro k hk
  rw [val_addL (by rw [h.fine.ln, h.len]; exact hk), sumD_set _ d 0 b hb, h.vn k hk, hvn k hk, Nat.zero_add]
 ·intro t
  rw [hg.all, hg1, mem_one, h.mem]
  constructor
  ·rintro (⟨c, h1, h2⟩ | h1)
   ·exact ⟨c, (getD_set_b d b c hbl).2 (.inl h1), h2⟩
   ·unfold inG at h1
    exact ⟨b, (getD_set_b d b b hbl).2 (.inr rfl), by simp only at h1; omega⟩
  ·rintro ⟨c, h1, h2⟩
   rcases (getD_set_b d b c hbl).1 h1 with h3 | h3
   ·exact .inl ⟨c, h3, h2⟩
   ·subst h3
    refine .inr ?_
    unfold inG
    simp only
    omega
def maskD (d : List Bool) (k : Nat) : List Bool := fullL (fun b => decide (b < k) && d.getD b false) d.length
theorem maskD_len (d : List Bool) (k : Nat) : (maskD d k).length = d.length := fullL_len _ _
theorem maskD_at (d : List Bool) (k j : Nat) (hj : j < d.length) : (maskD d k)[j]? = some (decide (j < k) && d.getD j false) := by simp [maskD, fullL, hj]
theorem maskD_zero (d : List Bool) : maskD d 0 = List.replicate d.length false := by
 refine List.ext_getElem (by rw [maskD_len, List.length_replicate]) fun j h1 h2 => ?_
 have := maskD_at d 0 j (by rw [maskD_len] at h1; exact h1)
 rw [List.getElem?_eq_getElem h1] at this
 simpa using this
theorem maskD_full (d : List Bool) {k : Nat} (hk : d.length ≤ k) : maskD d k = d := by
 refine List.ext_getElem (maskD_len _ _) fun j h1 h2 => ?_
 have := maskD_at d k j h2
 rw [List.getElem?_eq_getElem h1] at this
 have h3 : j < k := by omega
 simpa [h3, h2] using this
theorem maskD_no {d : List Bool} {k : Nat} (h : d.getD k false = false) : maskD d (k + 1) = maskD d k := by
 unfold maskD
 refine fullL_congr fun j hj => ?_
 by_cases e : j = k
 ·subst e; rw [h]; simp
 ·have : decide (j < k + 1) = decide (j < k) := by rw [decide_eq_decide]; omega
  rw [this]
theorem maskD_yes {d : List Bool} {k : Nat} (hk : k < d.length) (h : d.getD k false = true) : maskD d (k + 1) = (maskD d k).set k true := by
 refine List.ext_getElem (by rw [List.length_set, maskD_len, maskD_len]) fun j h1 h2 => ?_
 have hj : j < d.length := by rw [maskD_len] at h1; exact h1
 have e1 := maskD_at d (k + 1) j hj
 have e2 := maskD_at d k j hj
 rw [List.getElem?_eq_getElem h1] at e1
 rw [List.getElem?_eq_getElem (by rw [maskD_len]; exact hj)] at e2
 rw [List.getElem_set]
 simp only [Option.some.injEq] at e1 e2
 rw [e1]
 by_cases e : k = j
 ·subst e; rw [if_pos rfl, h]; simp
 ·rw [if_neg e, e2]
  have : decide (j < k + 1) = decide (j < k) := by rw [decide_eq_decide]; omega
  rw [this]
theorem maskD_new {d : List Bool} {k : Nat} (hk : k < d.length) : (maskD d k).getD k true = false := by
 rw [List.getD_eq_getElem?_getD, maskD_at d k k hk]; simp
theorem is_mask {xs ys : List Int} {M S : Nat} (hj : Job xs ys M S) {d : List Bool} (hd : d.length = cdiv xs.length S) (k : Nat) (hk : k ≤ d.length) : ∃ a, Is xs ys M S a (maskD d k) := by
 induction k with
 | zero => exact ⟨_, by rw [maskD_zero]; exact is_new hj _⟩
 | succ k ih =>
  obtain ⟨a, ha⟩ := ih (by omega)
  have hc := hj.c
  cases h : d.getD k false with
  | false => exact ⟨a, by rw [maskD_no h]; exact ha⟩
  | true =>
   obtain ⟨r, _, hr⟩ := is_add hj ha (maskD_new hk) ((cdiv_lt hj.s).1 (by omega)) (by rw [maskD_len]; omega)
   exact ⟨r, by rw [maskD_yes hk h]; exact hr⟩
noncomputable def sumA (xs ys : List Int) (M S : Nat) (d : List Bool) : Acc :=
 open Classical in if h : ∃ a, Is xs ys M S a d then Classical.choose h else .none
theorem sumA_is {xs ys : List Int} {M S : Nat} (hj : Job xs ys M S) {d : List Bool} (hd : d.length = cdiv xs.length S) : Is xs ys M S (sumA xs ys M S d) d := by
 have h : ∃ a, Is xs ys M S a d := by
  obtain ⟨a, ha⟩ := is_mask hj hd d.length (Nat.le_refl _)
  rw [maskD_full d (Nat.le_refl _)] at ha
  exact ⟨a, ha⟩
 unfold sumA
 rw [dif_pos h]
 exact Classical.choose_spec h
theorem sumA_new {xs ys : List Int} {M S : Nat} (hj : Job xs ys M S) : (newS M).1 = sumA xs ys M S (List.replicate (cdiv xs.length S) false) :=
 (is_new hj _).uniq (sumA_is hj (by simp))
theorem sumA_mask {xs ys : List Int} {M S : Nat} (hj : Job xs ys M S) {d : List Bool} (hd : d.length = cdiv xs.length S) {k : Nat} (hk : k < d.length) (h : d.getD k false = true) :
 addAcc (sumA xs ys M S (maskD d k)) (lagB xs ys M S k) ((k * S : Nat) : Int) ((manyB xs.length S k : Nat) : Int) = (sumA xs ys M S (maskD d (k + 1)), 0) := by
 have hc := hj.c
 obtain ⟨r, h1, h2⟩ := is_add hj (sumA_is hj (d := maskD d k) (by rw [maskD_len]; exact hd)) (maskD_new hk) ((cdiv_lt hj.s).1 (by omega)) (by rw [maskD_len]; omega)
 rw [h1, maskD_yes hk h, h2.uniq (sumA_is hj (by rw [List.length_set, maskD_len]; exact hd))]
theorem sumA_add {xs ys : List Int} {M S : Nat} (hj : Job xs ys M S) {d : List Bool} (hd : d.length = cdiv xs.length S) {k : Nat} (h : d.getD k true = false) :
 addAcc (sumA xs ys M S d) (lagB xs ys M S k) ((k * S : Nat) : Int) ((manyB xs.length S k : Nat) : Int) = (sumA xs ys M S (d.set k true), 0) := by
 have hc := hj.c
 have hk := getD_false_lt h
 obtain ⟨r, h1, h2⟩ := is_add hj (sumA_is hj hd) h ((cdiv_lt hj.s).1 (by omega)) (by omega)
 rw [h1, h2.uniq (sumA_is hj (by rw [List.length_set]; exact hd))]
structure Ev where
 k : Int
 w : Int
 b : Int
 deriving DecidableEq
def stepS (d : List Bool) (t : List Int) (e : Ev) : (List Bool × List Int) × Int :=
 if e.k = 4 then (if e.w ≠ 0 ∨ e.b ≠ 0 then (([], []), 2) else ((d, List.replicate t.length (-1)), 0))
 else if e.k < 1 ∨ 3 < e.k ∨ e.w < 0 ∨ (t.length : Int) ≤ e.w then (([], []), 2)
 else if e.k = 1 then
  (if e.b < 0 ∨ (d.length : Int) ≤ e.b then (([], []), 2)
   else if t.getD e.w.toNat 0 ≠ -1 ∨ d.getD e.b.toNat true = true then (([], []), 36)
   else ((d, t.set e.w.toNat e.b), 0))
 else if e.b ≠ 0 then (([], []), 2)
 else if t.getD e.w.toNat 0 = -1 then (([], []), 36)
 else ((if e.k = 2 then d.set (t.getD e.w.toNat 0).toNat true else d, t.set e.w.toNat (-1)), 0)
def atB (C : Nat) (t : List Int) : Bool := t.all fun x => decide (-1 ≤ x ∧ x < (C : Int))
structure Good19 (C : Nat) (d : List Bool) (t : List Int) : Prop where
 d : d.length = C
 t0 : 1 ≤ t.length
 t6 : t.length ≤ 6
 at_ : ∀ x ∈ t, -1 ≤ x ∧ x < (C : Int)
theorem step_good {C : Nat} {d : List Bool} {t : List Int} {e : Ev} (h : Good19 C d t) (h0 : (stepS d t e).2 = 0) : Good19 C (stepS d t e).1.1 (stepS d t e).1.2 ∧ (stepS d t e).1.2.length = t.length := by
 have hset : ∀ (k : Nat) (v : Int), -1 ≤ v ∧ v < (C : Int) → ∀ x ∈ t.set k v, -1 ≤ x ∧ x < (C : Int) := by
  intro k v hv x hx
  rcases List.mem_or_eq_of_mem_set hx with h1 | h1
  ·exact h.at_ x h1
  ·rw [h1]; exact hv
 have hd := h.d
 unfold stepS at h0 ⊢
 split
 ·rename_i h1
  rw [if_pos h1] at h0
  split at h0
  ·cases h0
  ·rename_i h2
   rw [if_neg h2]
   refine ⟨⟨hd, by simp; exact h.t0, by simp; exact h.t6, ?_⟩, by simp⟩
   intro x hx
   rw [List.eq_of_mem_replicate hx]
   omega
 ·rename_i h1
  rw [if_neg h1] at h0
  split at h0
  ·cases h0
  rename_i h2
  rw [if_neg h2]
  split at h0
  ·rename_i h3
   rw [if_pos h3]
   split at h0
   ·cases h0
   rename_i h4
   rw [if_neg h4]
   split at h0
   ·cases h0
   rename_i h5
   rw [if_neg h5]
   exact ⟨⟨hd, by simp; exact h.t0, by simp; exact h.t6, hset _ _ (by omega)⟩, by simp⟩
  ·rename_i h3
   rw [if_neg h3]
   split at h0
   ·cases h0
   rename_i h4
   rw [if_neg h4]
   split at h0
   ·cases h0
   rename_i h5
   rw [if_neg h5]
   refine ⟨⟨?_, by simp; exact h.t0, by simp; exact h.t6, hset _ _ (by omega)⟩, by simp⟩
   simp only
   split
   ·rw [List.length_set]; exact hd
   ·exact hd
def runL (s : List Bool × List Int) : List Ev → Nat → ((List Bool × List Int) × Nat) × Int
 | [], k => ((s, k), 0)
 | e :: l, k => if (stepS s.1 s.2 e).2 ≠ 0 then ((s, k), (stepS s.1 s.2 e).2) else runL (stepS s.1 s.2 e).1 l (k + 1)
end Wk
end Go.Proofs.Ytdekbncpodjgnaa
