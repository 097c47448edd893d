/-
  Layer 17, contracts: Pieces of both, SameLists, Same.
  Layer 17, plain: the values of sums of products of spectra; the lags.
  Layer 17, contracts: spectra, products.
-/
import Derived.Test.YtcpmpfnickhojaaPCrA
import Derived.Test.YtcpmpfnickhojaaPAppend
namespace Go.Proofs.Ytcpmpfnickhojaa
open Go.RowKit Num Dft
set_option linter.unusedVariables false
set_option linter.unusedSimpArgs false
namespace Crs
open Lol

def pcN (xs : List Int) : Nat := (xs.length + 31) / 32
def pcI (xs : List Int) (i : Nat) : List Int := (xs.drop (32 * i)).take 32
def pcs (xs : List Int) : List (List Int) := fullL (pcI xs) (pcN xs)
def pcS (xs : List Int) : List (List Int) × Int := if streamErr xs ≠ 0 then ([], streamErr xs) else (pcs xs, 0)
theorem pcS_err {xs : List Int} (h : ¬ streamErr xs = 0) : pcS xs = ([], streamErr xs) := by simp [pcS, h]
theorem pcS_ok {xs : List Int} (h : streamErr xs = 0) : pcS xs = (pcs xs, 0) := by simp [pcS, h]
theorem pcs_len (xs : List Int) : (pcs xs).length = pcN xs := fullL_len _ _
theorem pcI_len (xs : List Int) {i : Nat} (h : 32 * i ≤ xs.length) : (pcI xs i).length = min (32 * i + 32) xs.length - 32 * i := by
  unfold pcI
  rw [List.length_take, List.length_drop]
  omega
theorem own_mono {w : World} {base base' : Nat} {e : TypeId} {s n : Nat} {v : Value} {xs : List Value} (h : w.ownsRow base e s v n xs) (hb : base' ≤ base) : w.ownsRow base' e s v n xs := by
  rcases h.2 with ⟨h1, h2⟩ | ⟨g, cap, cur, h1, h2, h3⟩
  · exact ⟨h.1, .inl ⟨h1, h2⟩⟩
  · exact ⟨h.1, .inr ⟨g, cap, cur, h1, by omega, h3⟩⟩
theorem und_ints : Try.prog.underlying 22 = some (.slice (Try.prog.elem 22)) := by kernel_rfl
theorem size_int : (sizeOf (Try.prog.elem 22)).run Try.prog = fun w => .ok 1 w := by
  funext w
  have h : Try.prog.elem 22 = 3 := by kernel_rfl
  obtain ⟨j0, hj0, hy0, hy1, hy2⟩ := info_parts info_int
  rw [h]
  simp [sizeOf, typeInfo, hj0, hy1]
theorem sub_run (b off len cap lo hi : Nat) (h0 : lo < cap) (h1 : lo ≤ hi) (h2 : hi ≤ cap) (w : World) :
    (Instr.slice 22 (.slice (some ⟨b, off, none⟩) len cap) (some (.int .i64 (lo : Int))) (some (.int .i64 (hi : Int))) none).run Try.prog w = .ok (.slice (some ⟨b, off + lo, none⟩) (hi - lo) (cap - lo)) w := by
  rw [run_slice_lh w _ _ _ _ und_ints .i64 .i64 lo hi (by omega) (by omega) (by omega), size_int]
  have e : ¬ cap = lo := by omega
  simp [sliced, Result.andThen, e, Addr.add]
theorem RI_sub {k : IntKind} {w : World} {b off : Nat} {xs : List Int} (h : RI k w (some ⟨b, off, none⟩) xs) (i : Nat) : RI k w (some ⟨b, off + 32 * i, none⟩) (pcI xs i) := by
  intro h0
  have hl : (pcI xs i).length = min 32 (xs.length - 32 * i) := by unfold pcI; rw [List.length_take, List.length_drop]
  obtain ⟨b', off', e, hlt, hc⟩ := h (by omega)
  injection e with e
  injection e with e1 e2
  subst e1; subst e2
  refine ⟨b, off + 32 * i, rfl, hlt, fun j hj => ?_⟩
  rw [Nat.add_assoc, hc (32 * i + j) (by omega)]
  have e3 : (pcI xs i).getD j 0 = xs.getD (32 * i + j) 0 := by
    have hj2 : j < 32 := by omega
    simp [pcI, List.getD_eq_getElem?_getD, List.getElem?_take, hj2]
  rw [e3]
theorem info_ints : (Try.prog.info? 22).map (fun i => (i.zero, i.size, i.bytes)) = some (some (.slice none 0 0), 1, 24) := by kernel_rfl
theorem one_slice {A : Option Addr} {n c : Nat} : ∀ u ∈ [Value.slice A n c], u.oneCell' = true := by simp [Value.oneCell']
theorem pcN_iff (xs : List Int) (k : Nat) : 32 * k < xs.length ↔ k < pcN xs := by unfold pcN; omega

theorem wpList_append_RIn {P : Program} (w : World) {ops : Array Oper} {rest : List Oper} {o : Oper} {a : Act} {Q : Exit → Act → World → Prop} (hgd : o.guard = none) (s x : Operand) (t : TypeId)
    (ho : o.op = .call { callee := .builtin .append, args := #[s, x], argTypes := #[t, t] })
    (base : Nat) (e : TypeId) (i : TypeInfo) (z : Value) (bytes : Nat) (ht : P.underlying t = some (.slice e)) (hi : P.info? e = some i) (hz : i.zero = some z)
    (hsize : i.size = 1) (hby : i.bytes = bytes) (hzs : z.cells.size = 1) (k : IntKind)
    (A : Option Addr) (m c : Nat) (xs : List Int) (hm : xs.length = m) (hs : a.eval s = .slice none 0 0) (hx : a.eval x = .slice A m c) (hr : RI k w A xs)
    (h63 : m ≤ maxLen) (hbytes : m * bytes ≤ 140737488355328) (hbase : base ≤ w.heap.size)
    (h : ∀ A' c' w', m ≤ c' → w'.ownsRow base e 1 (.slice A' m c') m (xs.flatMap (encI k)) → Below w.heap.size w w' → wpList P ops Q rest (a.put o.dst (.slice A' m c')) w') : wpList P ops Q (o :: rest) a w := by
  subst hm
  refine wpList_append_RI w hgd s x t ho w.heap.size e i z bytes ht hi hz hsize hby hzs k (.slice none 0 0) 0 [] hs (World.ownsRow_nil _ _ _ _) A c xs hx hr (by omega) (by rw [Nat.zero_add]; exact hbytes) (Nat.le_refl _) ?_
  intro v' w' h1 h2
  rw [Nat.zero_add, List.nil_append] at h1
  obtain ⟨A', c', rfl, hc⟩ := own_shape' h1
  exact h A' c' w' hc (own_mono h1 hbase) (own_below (Below.refl w.heap.size w) (World.ownsRow_nil w w.heap.size e 1) h2 (Nat.le_refl _) (Nat.le_refl _))
set_option maxHeartbeats 1000000 in
theorem pieces_any (A : Option Addr) (c : Nat) (xs : List Int) (w : World) (hx : RI .i64 w A xs) (hcap : xs.length ≤ c) (hl : xs.length ≤ 140737488355328) :
    Calls Try.prog 16 #[.slice A xs.length c] w (RetLL .i64 w (pcS xs)) := by
  rcases (Decidable.em (streamErr xs = 0)).symm with he | he
  · have e1 : (streamErr xs != 0) = true := by simp [he]
    have HR := Lib.hid (pcS_err he)
    clear he
    go_enter Try.func16, Try.ntmps16
    go_wp2_with fail
    refine (sampleCheck_any _ _ _ _ hx hl).mono ?_
    rintro _ _ ⟨rfl, rfl⟩
    go_wp2
    go_ret2
    exact RetLL.no HR.out (Below.refl _ _)
  have e1 : (streamErr xs != 0) = false := by simp [he]
  have HR := Lib.hid (pcS_ok he)
  have hl5 := (Lagw.streamErr_zero he).1
  clear he
  obtain ⟨i0, hi0, hz0, hz1, hz2⟩ := info_parts info_int
  obtain ⟨j0, hj0, hy0, hy1, hy2⟩ := info_parts info_ints
  have HN := Lib.hid (pcN_iff xs)
  have hNb : pcN xs ≤ 8 := by unfold pcN; omega
  go_enter Try.func16, Try.ntmps16
  go_wp2_with fail
  refine (sampleCheck_any _ _ _ _ hx hl).mono ?_
  rintro _ _ ⟨rfl, rfl⟩
  go_wp2
  go_loopg [5, 6] (pcN xs) (fun gk v i wr => ∃ (k : Nat) (raws : List Value), k + gk = pcN xs ∧ i = .int .i64 ((32 * k : Nat) : Int) ∧ wr.ownsRow w.heap.size 22 1 v k raws ∧ Els .i64 w.heap.size wr v.ownBlock raws (fullL (pcI xs) k) ∧ Below w.heap.size w wr)
  case atStart => exact ⟨0, [], by omega, rfl, World.ownsRow_nil _ _ _ _, Els.nil, Below.refl _ _⟩
  case round =>
    obtain ⟨k, raws, hk, rfl, hO, hE, hb⟩ := hrel
    have hk' : k ≤ pcN xs := by omega
    have HK := Lib.hid hk
    clear hk
    have hsz := hb.size
    by_cases hlt : k < pcN xs
    · have hin := (HN.out k).2 hlt
      have hpl := pcI_len xs (Nat.le_of_lt hin)
      obtain ⟨b1, off1, rfl, hlw1, _⟩ := hx.at2 hin
      have hr := RI_sub (hx.keep hb) k
      obtain ⟨lo, hlo⟩ : ∃ lo, lo = 32 * k := ⟨_, rfl⟩
      rw [← hlo] at hin hpl hr
      have hnx : (lo : Int) + 32 = ((32 * (k + 1) : Nat) : Int) := by omega
      have HNX := Lib.hid hnx
      rw [show ((32 * k : Nat) : Int) = (lo : Int) by rw [hlo]]
      have HS := Lib.hid (fullL_succ (pcI xs) k)
      have hlen : (pcI xs k).length ≤ 32 := by rw [hpl]; omega
      clear hnx hlo
      have hlt2 : lo < xs.length := hin
      obtain ⟨As, cs, rfl, hcs⟩ := own_shape' hO
      by_cases h : (xs.length : Int) < (lo : Int) + 32
      · have d1 : decide ((xs.length : Int) < (lo : Int) + 32) = true := decide_eq_true h
        rw [Nat.min_eq_right (by omega)] at hpl
        have HPL := Lib.hid hpl
        have hM : xs.length - lo ≤ 32 := by omega
        clear hpl
        go_wp2_with (first
          | (at_builtin; refine wpList_append_RIn wr rfl (.const (.slice none 0 0)) (.tmp 26) 22 rfl wr.heap.size 3 i0 _ 8 Try.underlying22 hi0 hz0 hz1 hz2 rfl .i64 (some ⟨b1, off1 + lo, none⟩) (xs.length - lo) (c - lo) (pcI xs k) HPL.out rfl rfl hr (by unfold maxLen; omega) (by omega) (Nat.le_refl _) ?_; intro A2 c2 w2 hc2 hown2 hb2)
          | (at_builtin; refine wpList_append_lies _ rfl (.tmp 18) (.tmp 28) 34 rfl w.heap.size 22 j0 _ 1 24 Try.underlying34 hj0 hy0 hy1 hy2 rfl (by decide) _ k _ rfl ((own_keep hO hb2).alloc _) ⟨w2.heap.size, 0, none⟩ 1 1 [.slice A2 (xs.length - lo) c2] rfl rfl (enc_news _ rfl) one_slice (by omega) (by unfold maxLen; omega) (by omega) (by simp; have := hb2.size; omega) (w2.heap.size + 1) (by simp) ?_; intro g4 c4 w4 hown4 hgrow4 hat4 hlt4))
        have hB4 := own_below (balloc (bstep hb hb2) (.cells #[.slice A2 (xs.length - lo) c2] 22)) ((own_keep hO hb2).alloc _) hgrow4 (Nat.le_refl _) (by simp; have := hb2.size; omega)
        have r2 : RIo .i64 wr.heap.size w2 A2 (pcI xs k) := by
          have h1 := hown2
          rw [← HPL.out] at h1
          exact own_RIo h1
        have hne := r2.apart hO (Nat.le_refl _)
        have hE4 := ((hE.keep hb2).keep (balloc (Below.refl _ _) (.cells #[.slice A2 (xs.length - lo) c2] 22))).push ((r2.mono hsz).keep (balloc (Below.refl _ _) (.cells #[.slice A2 (xs.length - lo) c2] 22))) (by rw [HPL.out]; exact hc2) hne hgrow4 hat4 (by simp)
        rw [HPL.out] at hE4
        go_roundg (gk - 1)
        case rel => exact ⟨k + 1, _, by have := HK.out; omega, by rw [HNX.out], hown4, by rw [HS.out]; exact hE4, hB4⟩
        case measure => have := HK.out; omega
      · have d1 : decide ((xs.length : Int) < (lo : Int) + 32) = false := decide_eq_false h
        rw [Nat.min_eq_left (by omega), Nat.add_sub_cancel_left] at hpl
        have HPL := Lib.hid hpl
        have hM : 32 ≤ 32 := Nat.le_refl _
        have hin2 : (lo : Int) + 32 ≤ c := by omega
        clear hpl
        go_wp2_with (first
          | (at_builtin; refine wpList_append_RIn wr rfl (.const (.slice none 0 0)) (.tmp 26) 22 rfl wr.heap.size 3 i0 _ 8 Try.underlying22 hi0 hz0 hz1 hz2 rfl .i64 (some ⟨b1, off1 + lo, none⟩) 32 (c - lo) (pcI xs k) HPL.out rfl (show Value.slice (some ⟨b1, off1 + lo, none⟩) (lo + 32 - lo) (c - lo) = _ by rw [Nat.add_sub_cancel_left]) hr (by unfold maxLen; omega) (by omega) (Nat.le_refl _) ?_; intro A2 c2 w2 hc2 hown2 hb2)
          | (at_builtin; refine wpList_append_lies _ rfl (.tmp 18) (.tmp 28) 34 rfl w.heap.size 22 j0 _ 1 24 Try.underlying34 hj0 hy0 hy1 hy2 rfl (by decide) _ k _ rfl ((own_keep hO hb2).alloc _) ⟨w2.heap.size, 0, none⟩ 1 1 [.slice A2 32 c2] rfl rfl (enc_news _ rfl) one_slice (by omega) (by unfold maxLen; omega) (by omega) (by simp; have := hb2.size; omega) (w2.heap.size + 1) (by simp) ?_; intro g4 c4 w4 hown4 hgrow4 hat4 hlt4))
        have hB4 := own_below (balloc (bstep hb hb2) (.cells #[.slice A2 32 c2] 22)) ((own_keep hO hb2).alloc _) hgrow4 (Nat.le_refl _) (by simp; have := hb2.size; omega)
        have r2 : RIo .i64 wr.heap.size w2 A2 (pcI xs k) := by
          have h1 := hown2
          rw [← HPL.out] at h1
          exact own_RIo h1
        have hne := r2.apart hO (Nat.le_refl _)
        have hE4 := ((hE.keep hb2).keep (balloc (Below.refl _ _) (.cells #[.slice A2 32 c2] 22))).push ((r2.mono hsz).keep (balloc (Below.refl _ _) (.cells #[.slice A2 32 c2] 22))) (by rw [HPL.out]; exact hc2) hne hgrow4 hat4 (by simp)
        rw [HPL.out] at hE4
        go_roundg (gk - 1)
        case rel => exact ⟨k + 1, _, by have := HK.out; omega, by rw [HNX.out], hown4, by rw [HS.out]; exact hE4, hB4⟩
        case measure => have := HK.out; omega
    · obtain rfl : k = pcN xs := by omega
      have hin : ¬ 32 * pcN xs < xs.length := fun h => hlt ((HN.out _).1 h)
      obtain ⟨lo, hlo⟩ : ∃ lo, lo = 32 * pcN xs := ⟨_, rfl⟩
      rw [show ((32 * pcN xs : Nat) : Int) = (lo : Int) by rw [hlo]]
      rw [← hlo] at hin
      clear hlo
      obtain ⟨As, cs, rfl, hcs⟩ := own_shape' hO
      go_wp2
      go_ret2
      exact RetLL.own HR.out (pcs_len _) (own_RLL hO hE) hb
end Crs
end Go.Proofs.Ytcpmpfnickhojaa
namespace Go.Proofs.Ytcpmpfnickhojaa
open Go.RowKit Num Dft
set_option linter.unusedVariables false
set_option linter.unusedSimpArgs false
namespace Crs

/-- The spectra of all pieces. -/
noncomputable def spsL (xs : List Int) : List (List Int) := fullL (fun i => spcL (pcI xs i)) (pcN xs)
theorem spsL_len (xs : List Int) : (spsL xs).length = pcN xs := fullL_len _ _
theorem spsL_at (xs : List Int) {i : Nat} (h : i < pcN xs) : (spsL xs).getD i [] = spcL (pcI xs i) := fullL_getD _ _ _ _ h
theorem pcI_at (xs : List Int) (i k : Nat) : (pcI xs i).getD k 0 = pcF xs i k := by
  unfold pcF
  by_cases h : k < 32
  · rw [if_pos h]
    simp [pcI, List.getD_eq_getElem?_getD, List.getElem?_take, h]
  · rw [if_neg h]
    have : ¬ k < 32 := h
    simp [pcI, List.getD_eq_getElem?_getD, List.getElem?_take, this]
theorem spcL_pc (xs : List Int) (i : Nat) : spcL (pcI xs i) = fwdL 7681 (resL 7681 64 (pcF xs i)) := by
  unfold spcL
  congr 2
  funext k
  exact pcI_at xs i k
theorem pc_stream {xs : List Int} (h : streamErr xs = 0) (i : Nat) : streamErr (pcI xs i) = 0 := by
  obtain ⟨h1, h2⟩ := Lagw.streamErr_zero h
  refine streamErr_ok ?_ fun x hx => h2 x ?_
  · unfold pcI; rw [List.length_take, List.length_drop]; omega
  · unfold pcI at hx; exact List.mem_of_mem_drop (List.mem_of_mem_take hx)
theorem pc_small (xs : List Int) (i : Nat) : (pcI xs i).length ≤ 32 := by unfold pcI; rw [List.length_take]; omega
/-- Is there a piece b places behind? -/
def pairB (B : Nat) (b : Int) (i : Nat) : Bool := decide (0 ≤ (i : Int) + b ∧ (i : Int) + b < B)
/-- The sums of products when i pieces have been met. -/
def pdF (La Lb : List (List Int)) (b : Int) (k : Nat) : Nat → Int
  | 0 => 0
  | i + 1 => if pairB Lb.length b i = true then (pdF La Lb b k i + prdF (La.getD i []) (Lb.getD ((i : Int) + b).toNat []) k) % 7681 else pdF La Lb b k i
def pdL (La Lb : List (List Int)) (b : Int) (i : Nat) : List Int := fullL (fun k => pdF La Lb b k i) 64
theorem pdL_len (La Lb : List (List Int)) (b : Int) (i : Nat) : (pdL La Lb b i).length = 64 := fullL_len _ _
theorem pdF_bd (La Lb : List (List Int)) (b : Int) (k i : Nat) : 0 ≤ pdF La Lb b k i ∧ pdF La Lb b k i < 7681 := by
  induction i with
  | zero => exact ⟨Int.le_refl _, by unfold pdF; omega⟩
  | succ i ih =>
    unfold pdF
    split
    · exact ⟨Int.emod_nonneg _ (by omega), Int.emod_lt_of_pos _ (by omega)⟩
    · exact ih
theorem pdL_sp (La Lb : List (List Int)) (b : Int) (i : Nat) : isSpB (pdL La Lb b i) = true := decide_eq_true ⟨pdL_len _ _ _ _, fun j hj => by
  rw [pdL_len] at hj
  unfold pdL
  rw [fullL_getD _ _ _ _ hj]
  exact pdF_bd _ _ _ _ _⟩
theorem prdF_K (xs ys : List Int) (i j k : Nat) : prdF (spcL (pcI xs i)) (spcL (pcI ys j)) k = prK 7681 64 (pcF xs i) (pcF ys j) k % 7681 := by
  unfold prdF prK
  rw [spcL_pc, spcL_pc]
theorem pdF_S (xs ys : List Int) (b : Int) (k i : Nat) (hi : i ≤ pcN xs) : pdF (spsL xs) (spsL ys) b k i = S (fun i => if pairB (pcN ys) b i = true then prK 7681 64 (pcF xs i) (pcF ys ((i : Int) + b).toNat) k else 0) i % 7681 := by
  induction i with
  | zero => rfl
  | succ i ih =>
    rw [pdF, S, spsL_len, ih (by omega)]
    by_cases h : pairB (pcN ys) b i = true
    · have h2 := of_decide_eq_true h
      rw [if_pos h, if_pos h, spsL_at xs (by omega), spsL_at ys (by omega), prdF_K, ← Int.add_emod]
    · rw [if_neg h, if_neg h, Int.add_zero]
theorem byF_mask (xs ys : List Int) (A B : Nat) (b : Int) (m : Nat) : byF xs ys A B b m = S (fun i => if pairB B b i = true then corF 64 (pcF xs i) (pcF ys ((i : Int) + b).toNat) m else 0) A := by
  unfold byF
  refine S_congr fun i _ => ?_
  unfold pairB
  by_cases h : 0 ≤ (i : Int) + b ∧ (i : Int) + b < B
  · rw [if_pos h, if_pos (decide_eq_true h)]
  · rw [if_neg h, if_neg (by simpa using h)]
/-- The values of the products of all pairs of pieces that lie b places apart. -/
theorem by_val {xs ys : List Int} (b : Int) (hb : ∀ i k, -9 ≤ xs.getD i 0 * ys.getD k 0 ∧ xs.getD i 0 * ys.getD k 0 ≤ 9) (hA : pcN xs ≤ 8) : vlL (pdL (spsL xs) (spsL ys) b (pcN xs)) = fullL (byF xs ys (pcN xs) (pcN ys) b) 64 := by
  have e1 : pdL (spsL xs) (spsL ys) b (pcN xs) = fullL (fun k => S (fun i => if pairB (pcN ys) b i = true then prK 7681 64 (pcF xs i) (pcF ys ((i : Int) + b).toNat) k else 0) (pcN xs) % ((7681 : Nat) : Int)) 64 :=
    fullL_congr fun k _ => pdF_S xs ys b k _ (Nat.le_refl _)
  have e2 := sum_back ok_p (pcN xs) (pairB (pcN ys) b) (pcF xs) (fun i => pcF ys ((i : Int) + b).toNat)
  rw [← e1] at e2
  have e3 : bkL 7681 (pdL (spsL xs) (spsL ys) b (pcN xs)) = resL 7681 64 (byF xs ys (pcN xs) (pcN ys) b) := by
    have e4 := bk_sp (fit_sp (pdL_sp (spsL xs) (spsL ys) b (pcN xs)))
    have e5 : bkS ((7681 : Nat) : Int) (pdL (spsL xs) (spsL ys) b (pcN xs)) = bkS 7681 (pdL (spsL xs) (spsL ys) b (pcN xs)) := rfl
    rw [e5, e4] at e2
    refine (Prod.mk.inj e2).1.trans ?_
    exact congrArg (resL 7681 64) (funext fun m => (byF_mask xs ys (pcN xs) (pcN ys) b m).symm)
  unfold vlL
  refine fullL_congr fun k hk => ?_
  unfold vlF
  rw [e3]
  refine sg_res _ (fun k _ => ?_) hk
  have := by_bd (b := 9) (by omega) hb (pcN xs) (pcN ys) b k
  have h8 : ((pcN xs : Nat) : Int) ≤ 8 := by omega
  omega
/-- The sums of the lags from -m to m. -/
def lgF (xs ys : List Int) (m t : Nat) : Int := S (fun u => xs.getD u 0 * yI ys ((u : Int) + ((t : Int) - m))) xs.length
def lgP (xs ys : List Int) (m n : Nat) (t : Nat) : Int := S (fun j => spF xs ys (pcN xs) (pcN ys) ((t : Int) - m) ((j : Int) + 1 - (pcN xs : Int))) n
theorem lgP_end (xs ys : List Int) (m t : Nat) : lgP xs ys m (pcN xs + pcN ys - 1) t = lgF xs ys m t := by
  unfold lgP lgF
  exact spread_law xs ys (by unfold pcN; omega) (by unfold pcN; omega) _
theorem S_sumR (f : Nat → Int) (n : Nat) : S f n = sumR f n := by
  induction n with
  | zero => rfl
  | succ n ih => rw [S, sumR_succ, ih]
theorem yI_if (ys : List Int) (z : Int) : yI ys z = if 0 ≤ z ∧ z < ys.length then ys.getD z.toNat 0 else 0 := by
  by_cases h : yI ys z = 0
  · split
    · rename_i h2
      unfold yI at h
      rw [if_pos h2.1] at h
      rw [h]
      unfold yI
      rw [if_pos h2.1, h]
    · exact h
  · have h2 := yI_in h
    rw [if_pos h2]
    unfold yI
    rw [if_pos h2.1]
theorem lg_pair (xs ys : List Int) (m t : Nat) : lgF xs ys m t = Lagw.pairSum (Lagw.prodF xs ys) xs.length ys.length ((t : Int) - m) := by
  unfold lgF Lagw.pairSum
  rw [S_sumR]
  refine sumR_congr fun u hu => ?_
  rw [Lagw.inner_one, yI_if]
  by_cases h : 0 ≤ (u : Int) + ((t : Int) - m) ∧ (u : Int) + ((t : Int) - m) < ys.length
  · rw [if_pos h, if_pos h]; rfl
  · rw [if_neg h, if_neg h, Int.mul_zero]
theorem nzL_len (xs : List Int) : (nzL xs).length = xs.length := fullL_len _ _
theorem nzL_at (xs : List Int) (k : Nat) : (nzL xs).getD k 0 = Lagw.nz (xs.getD k 0) := by
  unfold nzL
  rcases Nat.lt_or_ge k xs.length with h | h
  · rw [fullL_getD _ _ _ _ h]; rfl
  · rw [getD_out (by rw [fullL_len]; exact h), getD_out h]; rfl
theorem nz_stream {xs : List Int} (h : streamErr xs = 0) : streamErr (nzL xs) = 0 := by
  obtain ⟨h1, _⟩ := Lagw.streamErr_zero h
  refine streamErr_ok (by rw [nzL_len]; exact h1) fun x hx => ?_
  obtain ⟨i, hi, rfl⟩ := List.mem_iff_getElem.1 hx
  have e := nzL_at xs i
  rw [getD_lt _ _ hi] at e
  rw [e]
  rcases Lagw.nz_01 (xs.getD i 0) with h2 | h2 <;> rw [h2] <;> decide
theorem lg_nz (xs ys : List Int) (m t : Nat) : lgF (nzL xs) (nzL ys) m t = Lagw.pairSum (Lagw.cntF xs ys) xs.length ys.length ((t : Int) - m) := by
  rw [lg_pair, nzL_len, nzL_len]
  unfold Lagw.pairSum
  refine sumR_congr fun i _ => sumR_congr fun k _ => ?_
  unfold Lagw.prodF Lagw.cntF
  rw [nzL_at, nzL_at]
/-- The lags are those of layer 16. -/
theorem lags_eq (xs ys : List Int) (m : Nat) : fullL (fun t => (lgF xs ys m t, lgF (nzL xs) (nzL ys) m t)) (2 * m + 1) = Lagw.lagCells xs ys m := by
  refine list_ext_getD (d := (0, 0)) (by rw [fullL_len, Lagw.lagCells_len]) (fun t ht => ?_)
  rw [fullL_len] at ht
  rw [fullL_getD _ _ _ _ ht, Lagw.lagCells_at ht, lg_pair, lg_nz]
theorem prod_9 {xs ys : List Int} (hx : streamErr xs = 0) (hy : streamErr ys = 0) (i k : Nat) : -9 ≤ xs.getD i 0 * ys.getD k 0 ∧ xs.getD i 0 * ys.getD k 0 ≤ 9 := Lagw.prod_bd (Lagw.stream_at hx i) (Lagw.stream_at hy k)
theorem lgF_bd {xs ys : List Int} (hx : streamErr xs = 0) (hy : streamErr ys = 0) (m t : Nat) : -2304 ≤ lgF xs ys m t ∧ lgF xs ys m t ≤ 2304 := by
  have h1 := (Lagw.streamErr_zero hx).1
  have := S_bd (f := fun u => xs.getD u 0 * yI ys ((u : Int) + ((t : Int) - m))) (n := xs.length) (b := 9) (fun u _ => by
    rw [yI_if]
    split
    · exact prod_9 hx hy _ _
    · rw [Int.mul_zero]; omega)
  unfold lgF
  omega
end Crs
end Go.Proofs.Ytcpmpfnickhojaa
namespace Go.Proofs.Ytcpmpfnickhojaa
open Go.RowKit Num Dft
set_option linter.unusedVariables false
set_option linter.unusedSimpArgs false
namespace Crs
open Lol

theorem info_ints64 : (Try.prog.info? 23).map (fun i => (i.zero, i.size, i.bytes)) = some (some (.slice none 0 0), 1, 24) := by kernel_rfl
/-- The first slices of a row, and nil ones. -/
def rowC (raws : List Value) (n : Nat) : Array Value := (raws ++ List.replicate (n - raws.length) (Value.slice none 0 0)).toArray
theorem mk_slices (n : Nat) (hn : n ≤ 1000) (w : World) : (Instr.makeSlice 75 (.int .i64 (n : Int)) (.int .i64 (n : Int))).run Try.prog w = .ok (.slice (some ⟨w.heap.size, 0, none⟩) n n) (w.alloc (.cells (rowC [] n) 23)) := by
  obtain ⟨i0, hi0, hz0, hz1, hz2⟩ := info_parts info_ints64
  have h := mk_row (P := Try.prog) 75 23 Try.underlying75 hi0 hz0 hz1 hz2 (fun v : Value => [v]) (fun _ => rfl) (by omega) (.slice none 0 0) rfl n (by omega) (by omega) w
  have e : ((List.replicate n (Value.slice none 0 0)).flatMap fun v : Value => [v]).toArray = rowC [] n := by
    unfold rowC
    simp
  rw [e] at h
  exact h
theorem rowC_set {raws : List Value} {n : Nat} (h : raws.length < n) (v : Value) : (rowC raws n).setIfInBounds raws.length v = rowC (raws ++ [v]) n := by
  unfold rowC
  rw [List.setIfInBounds_toArray]
  congr 1
  apply List.ext_getElem (by simp; omega)
  intro i h1 h2
  rw [List.getElem_set]
  rcases Nat.lt_trichotomy i raws.length with h3 | h3 | h3
  · rw [if_neg (by omega), List.getElem_append_left h3, List.getElem_append_left (by simp; omega), List.getElem_append_left h3]
  · subst h3
    rw [if_pos rfl, List.getElem_append_left (by simp)]
    simp
  · rw [if_neg (by omega), List.getElem_append_right (by omega), List.getElem_append_right (by simp; omega)]
    simp
theorem rowC_at {raws : List Value} {n : Nat} (h : raws.length < n) : (rowC raws n)[raws.length]? = some (.slice none 0 0) := by
  unfold rowC
  rw [List.getElem?_toArray, List.getElem?_append_right (Nat.le_refl _), Nat.sub_self, List.getElem?_replicate, if_pos (by omega)]
theorem rowC_full {raws : List Value} {n : Nat} (h : raws.length = n) : rowC raws n = raws.toArray := by
  unfold rowC
  simp [h]
theorem Els_far {k : IntKind} {base : Nat} {w : World} {own : Option Nat} {raws : List Value} {L : List (List Int)} (h : Els k base w own raws L) {p : Addr} (hp : p.block < base) (u : Value) : Els k base (w.setCell p u) own raws L := by
  refine ⟨h.1, fun j h1 h2 => ?_⟩
  obtain ⟨A, c, e2, h3, h4, h5⟩ := h.2 j h1 h2
  exact ⟨A, c, e2, h3.far hp u, h4, h5⟩

theorem pieces_w (A : Option Addr) (c : Nat) (xs : List Int) (w : World) (he : streamErr xs = 0) (hx : RI .i64 w A xs) (hcap : xs.length ≤ c) (hl : xs.length ≤ 140737488355328) :
    Calls Try.prog 16 #[.slice A xs.length c] w fun e w' => ∃ A c, e = .returned (.tuple #[.slice A (pcN xs) c, .int .i64 0]) ∧ RLL .i64 w' A (pcs xs) ∧ Below w.heap.size w w' := by
  have h := pieces_any A c xs w hx hcap hl
  rw [pcS_ok he] at h
  refine h.mono ?_
  rintro e w' ⟨A', c', rfl, h1, h2⟩
  exact ⟨A', c', by simp only [pcs_len], h1, h2⟩
theorem spectrum_w (A : Option Addr) (c : Nat) (xs : List Int) (w : World) (he : streamErr xs = 0) (h32 : xs.length ≤ 32) (hx : RI .i64 w A xs) :
    Calls Try.prog 10 #[.slice A xs.length c] w fun e w' => ∃ A c, e = .returned (.tuple #[.slice A 64 c, .int .i64 0]) ∧ RIo .i64 w.heap.size w' A (spcL xs) ∧ 64 ≤ c ∧ Below w.heap.size w w' := by
  have h := spectrum_any A c xs w hx (by omega)
  rw [spcS_ok he h32] at h
  refine h.mono ?_
  rintro e w' ⟨A', c', rfl, h1, h2, h3⟩
  rw [show ((spcL xs, (0 : Int)).1.length) = 64 from spcL_len xs] at h2
  exact ⟨A', c', by simp only [spcL_len], h1, h2, h3⟩

set_option maxHeartbeats 1000000 in
theorem spectra_any (A : Option Addr) (c : Nat) (xs : List Int) (w : World) (he : streamErr xs = 0) (hx : RI .i64 w A xs) (hcap : xs.length ≤ c) :
    Calls Try.prog 55 #[.slice A xs.length c] w fun e w' => ∃ A c, e = .returned (.tuple #[.slice A (pcN xs) c, .int .i64 0]) ∧ RLL .i64 w' A (spsL xs) ∧ Below w.heap.size w w' := by
  have hl5 := (Lagw.streamErr_zero he).1
  have hNb : pcN xs ≤ 8 := by unfold pcN; omega
  have HP := fun w hx => pieces_w A c xs w he hx hcap (by omega)
  have HS := Lib.hid (fun i A c w hx => spectrum_w A c (pcI xs i) w (pc_stream he i) (pc_small xs i) hx)
  have HPL := Lib.hid (pcs_len xs)
  have hmk := mk_slices (pcN xs) (by omega)
  clear he
  go_enter Try.func55, Try.ntmps55
  go_wp2_with fail
  refine (HP _ hx).mono ?_
  rintro _ w1 ⟨A1, c1, rfl, r1, hb1⟩
  go_wp2
  go_loopg [5, 22] (pcN xs) (fun gk e i wr => ∃ (k : Nat) (raws : List Value), k + gk = pcN xs ∧ e = .int .i64 0 ∧ i = .int .i64 k ∧ Blk wr w1.heap.size 23 (rowC raws (pcN xs)) ∧ Els .i64 (w1.heap.size + 1) wr none raws (fullL (fun i => spcL (pcI xs i)) k) ∧ Below w1.heap.size w1 wr)
  case atStart => exact ⟨0, [], by omega, rfl, rfl, Blk.new w1 23 _, Els.nil, balloc (Below.refl _ _) _⟩
  case round =>
    obtain ⟨k, raws, hk, rfl, rfl, hO, hE, hb⟩ := hrel
    have hk' : k ≤ pcN xs := by omega
    have HK := Lib.hid hk
    clear hk hmk
    have hrl : raws.length = k := by rw [hE.1, fullL_len]
    by_cases hlt : k < pcN xs
    · obtain ⟨b1, off1, A', c', rfl, hlw1, hc1, hr, hcap1⟩ := r1.at_ (i := k) (by rw [HPL.out]; exact hlt)
      have e1 : (pcs xs)[k]'(by rw [HPL.out]; exact hlt) = pcI xs k := fullL_get _ _ _ _
      rw [e1] at hc1 hr
      have hc2 := (hb.cell (p := ⟨b1, off1 + k, none⟩) hlw1).trans hc1
      have HFS := Lib.hid (fullL_succ (fun i => spcL (pcI xs i)) k)
      have HSL := Lib.hid (spcL_len (pcI xs k))
      clear e1
      go_wp2_with fail
      refine (HS.out k _ _ _ (hr.keep hb)).mono ?_
      rintro _ w2 ⟨A2, c2, rfl, r2, hcp2, hb2⟩
      have hs1 := hO.lt
      have hO2 := hO.keep hb2
      have q0 : w2.cell? ⟨w1.heap.size, k, none⟩ = some (.slice none 0 0) := by
        rw [hO2.cell, ← hrl]
        exact rowC_at (by omega)
      have f0 := hO2.frozen k
      have hg2 := hO2.lt
      have hO3 := hO2.put k (.slice A2 64 c2)
      rw [← hrl, rowC_set (by omega), hrl] at hO3
      have hE2 := hE.keep hb2
      have hE3 : Els .i64 (w1.heap.size + 1) w2 none (raws ++ [.slice A2 64 c2]) (fullL (fun i => spcL (pcI xs i)) k ++ [spcL (pcI xs k)]) := by
        have h1 := hE2.snoc (c := c2) (r2.mono hs1) (by rw [HSL.out]; exact hcp2) (fun _ _ _ _ => by simp)
        rw [HSL.out] at h1
        exact h1
      have hE4 := Els_far hE3 (p := ⟨w1.heap.size, k, none⟩) (by simp) (.slice A2 64 c2)
      have HRL := Lib.hid hrl
      clear hE hE2 hE3 hO hrl
      go_wp2
      go_roundg (gk - 1)
      case rel => exact ⟨k + 1, _, by have := HK.out; omega, rfl, by go_num, hO3, by rw [HFS.out]; exact hE4, (bstep hb hb2).setCell (p := ⟨w1.heap.size, k, none⟩) (Nat.le_refl _) _⟩
      case measure => have := HK.out; omega
    · obtain rfl : k = pcN xs := by omega
      rw [rowC_full hrl] at hO
      have hR := blk_RLL hO hE
      clear hrl
      go_wp2
      go_ret2
      exact ⟨_, _, rfl, hR, bstep hb1 hb⟩
end Crs
end Go.Proofs.Ytcpmpfnickhojaa
