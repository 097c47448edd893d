/-
  Contract of fringeref14.Twin: the rows of the copy lie in blocks of their own, not frozen.
-/
import Derived.Test.YtbejkfeloffccaaAlignPC
namespace Go.Proofs.Ytbejkfeloffccaa
open Go.RowKit
set_option linter.unusedVariables false
set_option linter.unusedSimpArgs false

def RowM (B : Nat) (w : World) (A : Option Addr) (n : Nat) : Prop := 0 < n → ∃ G cs, A = some ⟨G, 0, none⟩ ∧ B ≤ G ∧ Blk w G 3 cs ∧ n ≤ cs.size
theorem RowM.keep {B n : Nat} {w w' : World} {A : Option Addr} (h : RowM B w A n) (hb : Below w.heap.size w w') : RowM B w' A n := by
  intro h0
  obtain ⟨G, cs, e, h1, h2, h3⟩ := h h0
  exact ⟨G, cs, e, h1, h2.keep hb, h3⟩
theorem RowM.mono {B B' n : Nat} {w : World} {A : Option Addr} (h : RowM B w A n) (hb : B' ≤ B) : RowM B' w A n := by
  intro h0
  obtain ⟨G, cs, e, h1, h2, h3⟩ := h h0
  exact ⟨G, cs, e, by omega, h2, h3⟩
theorem blk_apart {w : World} {g G : Nat} {t t' : TypeId} {cs cs' : Array Value} (h : Blk w g t cs) (h' : Blk w G t' cs') (hne : t ≠ t') : g ≠ G := by
  rintro rfl
  unfold Blk at h h'
  rw [h] at h'
  injection h' with h'
  injection h' with _ h' _
  exact hne h'
theorem RowM.far1 {B n : Nat} {w : World} {A : Option Addr} (h : RowM B w A n) {p : Addr} {cs : Array Value} (hp : Blk w p.block 47 cs) (u : Value) : RowM B (w.setCell p u) A n := by
  intro h0
  obtain ⟨G, cs2, e, h1, h2, h3⟩ := h h0
  exact ⟨G, cs2, e, h1, h2.far (blk_apart h2 hp (by decide)) u, h3⟩
theorem own_RowM {w : World} {base : Nat} {A : Option Addr} {n c : Nat} {xs : List Value} (h : w.ownsRow base 3 1 (.slice A n c) n xs) : RowM base w A n := by
  intro h0
  rcases h.2 with ⟨_, h2⟩ | ⟨g, cap, cur, e, h1, h2, h3, _, h4, _⟩
  · omega
  · injection e with e _ _
    exact ⟨g, cur, e, h1, h2, by omega⟩
def OVr (B : Nat) (w : World) (own : Option Nat) (raws : List (Int × Value)) : Prop :=
  ∀ j (h : j < raws.length), ∃ A n c, raws[j].2 = .slice A n c ∧ n ≤ 1000000 ∧ (0 < n → ∃ G cs, A = some ⟨G, 0, none⟩ ∧ own ≠ some G ∧ B ≤ G ∧ Blk w G 3 cs ∧ n ≤ cs.size)
theorem OVr.nil {B : Nat} {w : World} {own : Option Nat} : OVr B w own [] := fun j h => absurd h (by simp)
theorem OVr.keep {B : Nat} {w w' : World} {own : Option Nat} {raws : List (Int × Value)} (h : OVr B w own raws) (hb : Below w.heap.size w w') : OVr B w' own raws := by
  intro j hj
  obtain ⟨A, n, c, e, hn, h1⟩ := h j hj
  refine ⟨A, n, c, e, hn, fun h0 => ?_⟩
  obtain ⟨G, cs, e2, h2, h3, h4, h5⟩ := h1 h0
  exact ⟨G, cs, e2, h2, h3, h4.keep hb, h5⟩
theorem OVr.push {B : Nat} {w w' : World} {own : Option Nat} {raws : List (Int × Value)} {a : Int} {A : Option Addr} {c g H n : Nat} (h : OVr B w own raws) (hn : n ≤ 1000000) (hr : RowM B w A n) (hne : 0 < n → ∀ b off, A = some ⟨b, off, none⟩ → own ≠ some b)
    (hg : w.grownBy w' own) (hat : own = some g ∨ g = H) (hH : w.heap.size ≤ H) : OVr B w' (some g) (raws ++ [(a, .slice A n c)]) := by
  have key : ∀ G cs, own ≠ some G → Blk w G 3 cs → some g ≠ some G ∧ Blk w' G 3 cs := by
    intro G cs h1 h2
    refine ⟨fun e => ?_, h2.grown hg (fun e => h1 e.symm)⟩
    injection e with e
    subst e
    rcases hat with e2 | e2
    · exact h1 e2
    · have := h2.lt; omega
  intro j hj
  rcases Nat.lt_or_ge j raws.length with h3 | h3
  · rw [List.getElem_append_left h3]
    obtain ⟨A2, n2, c2, e, hn2, h1⟩ := h j h3
    refine ⟨A2, n2, c2, e, hn2, fun h0 => ?_⟩
    obtain ⟨G, cs, e2, h2, h4, h5, h6⟩ := h1 h0
    exact ⟨G, cs, e2, (key G cs h2 h5).1, h4, (key G cs h2 h5).2, h6⟩
  · have e1 : j = raws.length := by simp at hj; omega
    have r1 : (raws ++ [(a, Value.slice A n c)])[j]'hj = (a, .slice A n c) := by simp [e1]
    rw [r1]
    refine ⟨A, n, c, rfl, hn, fun h0 => ?_⟩
    obtain ⟨G, cs, e2, h4, h5, h6⟩ := hr h0
    have h2 := hne h0 G 0 e2
    exact ⟨G, cs, e2, (key G cs h2 h5).1, h4, (key G cs h2 h5).2, h6⟩
/-- A recording whose samples may be overwritten. -/
def OverK (B M : Nat) (A : Option Addr) (N : Nat) (w : World) : Prop :=
  0 < N → ∃ g raws, A = some ⟨g, 0, none⟩ ∧ Blk w g 47 raws ∧ ∀ t, t < N → ∃ A' n c, raws[t * 2 + 1]? = some (.slice A' n c) ∧ n ≤ 1000000 ∧ (0 < n → ∃ G cs, A' = some ⟨G, 0, none⟩ ∧ B ≤ G ∧ G < M ∧ Blk w G 3 cs ∧ n ≤ cs.size)
theorem OVr.over {B n c : Nat} {w : World} {A : Option Addr} {raws : List (Int × Value)} (h : OVr B w (Value.slice A n c).ownBlock raws) (hO : w.ownsRow B 47 2 (.slice A n c) n (raws.flatMap encK)) (hn : raws.length = n) : OverK B w.heap.size A n w := by
  intro h0
  rcases hO.2 with ⟨_, h2⟩ | ⟨g, cap, cur, e, h1, h2, h3, _, h4, _⟩
  · omega
  · injection e with e _ _
    subst e
    subst hn
    refine ⟨g, cur, rfl, h2, fun t ht => ?_⟩
    obtain ⟨A', n', c', e', hn', h5⟩ := h t ht
    have k2 := own_at encK_len hO ht (i := 1) (by omega)
    rw [Blk.cell h2] at k2
    refine ⟨A', n', c', by rw [k2]; simp [encK, e'], hn', fun h0' => ?_⟩
    obtain ⟨G, cs, e2, _, h6, h7, h8⟩ := h5 h0'
    exact ⟨G, cs, e2, h6, h7.lt, h7, h8⟩
theorem OverK.keep {B M N : Nat} {A : Option Addr} {w w' : World} (h : OverK B M A N w) (hb : Below w.heap.size w w') : OverK B M A N w' := by
  intro h0
  obtain ⟨g, raws, e, h1, h2⟩ := h h0
  refine ⟨g, raws, e, h1.keep hb, fun t ht => ?_⟩
  obtain ⟨A', n, c, h3, h4, h5⟩ := h2 t ht
  refine ⟨A', n, c, h3, h4, fun h0' => ?_⟩
  obtain ⟨G, cs, h6, h7, h8, h9, h10⟩ := h5 h0'
  exact ⟨G, cs, h6, h7, h8, h9.keep hb, h10⟩
theorem OverK.store {B M N G x : Nat} {A : Option Addr} {w : World} {cs : Array Value} (h : OverK B M A N w) (hG : Blk w G 3 cs) (u : Value) : OverK B M A N (w.setCell ⟨G, x, none⟩ u) := by
  intro h0
  obtain ⟨g, raws, e, h1, h2⟩ := h h0
  refine ⟨g, raws, e, h1.far (blk_apart h1 hG (by decide)) u, fun t ht => ?_⟩
  obtain ⟨A', n, c, h3, h4, h5⟩ := h2 t ht
  refine ⟨A', n, c, h3, h4, fun h0' => ?_⟩
  obtain ⟨G2, cs2, h6, h7, h8, h9, h10⟩ := h5 h0'
  by_cases e2 : G2 = G
  · subst e2
    exact ⟨G2, _, h6, h7, h8, h9.put x u, by simpa using h10⟩
  · exact ⟨G2, cs2, h6, h7, h8, h9.far (by simpa using e2) u, h10⟩
theorem RBo.far {base : Nat} {w : World} {A : Option Addr} {l : List (Int × List Int)} (h : RBo base w A l) {p : Addr} (hp : p.block < base) (u : Value) : RBo base (w.setCell p u) A l := by
  intro h0
  obtain ⟨b, off, e, h5, hlt, hc⟩ := h h0
  have key : ∀ k, (w.setCell p u).cell? ⟨b, k, none⟩ = w.cell? ⟨b, k, none⟩ := fun k => World.cell?_of_block (Below.heap_setCell w p u b (by omega))
  refine ⟨b, off, e, h5, by simpa using hlt, fun j hj => ?_⟩
  obtain ⟨h1, A', c', h2, h3, h4⟩ := hc j hj
  exact ⟨(key _).trans h1, A', c', (key _).trans h2, h3.far hp u, h4⟩
theorem put_small (l : List (Int × List Int)) (b : Int × List Int) : (putS l b).1.length ≤ 64 ∧ ∀ x ∈ (putS l b).1, x.2.length ≤ 140737488355328 := by
  have key : (putS l b).1 = [] ∨ ((putS l b).2 = 0 ∧ (putS l b).1 = putL l b) := by
    unfold putS
    repeat' split
    all_goals simp
  rcases key with e | ⟨h, e⟩
  · rw [e]; simp
  · rw [e]
    have h1 := (put_again h).1
    refine ⟨(recErr_zero h1).1, fun x hx => ?_⟩
    obtain ⟨j, hj, rfl⟩ := List.mem_iff_getElem.1 hx
    have := rec_bd h1 j hj
    omega
set_option maxHeartbeats 4000000 in
theorem twin_made (a : Int) (A : Option Addr) (c : Nat) (xs : List Int) (w : World) (hx : RI .i64 w A xs) (hl : xs.length ≤ 1000000) :
    Calls Try.prog 42 #[.agg #[.int .i64 a, .slice A xs.length c]] w fun e w' => ∃ A' c', e = .returned (.agg #[.int .i64 a, .slice A' xs.length c']) ∧ RIo w.heap.size w' A' xs ∧ xs.length ≤ c' ∧ Below w.heap.size w w' ∧ RowM w.heap.size w' A' xs.length := by
  obtain ⟨i0, hi0, hz0, hz1, hz2⟩ := info_parts info_int
  have hb0 : Below w.heap.size w ((w.alloc (.cells #[.int .i64 a, .slice A xs.length c] 47)).alloc (.cells #[.int .i64 0, .slice none 0 0] 47)) := balloc (balloc (Below.refl _ _) _) _
  go_enter Try.func42, Try.ntmps42
  go_wp2
  go_region_held3 (fun w' => w'.cell? ⟨w.heap.size, 0, none⟩ = some (.int .i64 a) ∧ w'.cell? ⟨w.heap.size, 1, none⟩ = some (.slice A xs.length c))
    (first | go_keep | exact ⟨hV1.cell 0, hV1.cell 1⟩ | exact ⟨hV2.cell 0, hV2.cell 1⟩)
    ((refine step_clone_RI _ (by rfl) _ _ 22 (by rfl) (w.heap.size + 1 + 1) 3 8 Try.underlying22 hi0 hz0 hz1 hz2 rfl .i64 _ (by rfl) (World.ownsRow.drew (own_emptyG _ (by simp) (Nat.le_refl _))) A c xs (by rfl) (hx.keep (balloc hb0 _).drew) (by unfold maxLen; omega) (by omega) (by simp) ?_; intro A' c' w1 hc1 hown1 hgrow1; obtain ⟨hB1, hV1, hR1⟩ := twin_facts hgrow1; have hV2 := (hV1.far (p := ⟨w.heap.size + 1, 0, none⟩) (by simp) (.int .i64 a)).far (p := ⟨w.heap.size + 1, 1, none⟩) (by simp) (.slice A' xs.length c'); have r0 := hR1.frozen 0; have r1 := hR1.frozen 1; have q0 : w1.cell? ⟨w.heap.size + 1, 0, none⟩ = some (.int .i64 0) := hR1.cell 0; have q1 : w1.cell? ⟨w.heap.size + 1, 1, none⟩ = some (.slice none 0 0) := hR1.cell 1; have hlt1 := hR1.lt))
  go_wp2
  refine bodyPost_ret (v := .agg #[.int .i64 a, .slice A' xs.length c']) (by simp [results, Try.results42, go_sem, q0, q1]) rfl ⟨A', c', rfl, ?_, hc1, ?_, ?_⟩
  · exact (((own_RIo hown1).far (p := ⟨w.heap.size + 1, 0, none⟩) (by simp) _).far (p := ⟨w.heap.size + 1, 1, none⟩) (by simp) _).mono (by omega)
  · exact (hB1.setCell (p := ⟨w.heap.size + 1, 0, none⟩) (by simp) _).setCell (p := ⟨w.heap.size + 1, 1, none⟩) (by simp) _
  · exact (((own_RowM hown1).mono (by omega)).far1 (p := ⟨w.heap.size + 1, 0, none⟩) hR1 _).far1 (p := ⟨w.heap.size + 1, 1, none⟩) (hR1.put 0 _) _
set_option maxHeartbeats 4000000 in
theorem Twin_made (A : Option Addr) (c : Nat) (l : List (Int × List Int)) (w : World) (hx : RB w A l) (hl : l.length ≤ 1000000) (hall : ∀ b ∈ l, b.2.length ≤ 1000000) :
    Calls Try.prog 22 #[.slice A l.length c] w fun e w' => ∃ A' c', e = .returned (.slice A' l.length c') ∧ RBo w.heap.size w' A' l ∧ l.length ≤ c' ∧ Below w.heap.size w w' ∧ OverK w.heap.size w'.heap.size A' l.length w' := by
  have HALL := Lib.hid hall
  clear hall
  obtain ⟨i0, hi0, hz0, hz1, hz2⟩ := info_parts info_block
  go_enter Try.func22, Try.ntmps22
  go_wp2
  go_loopg [3, 4] l.length (fun gk v i wr => ∃ (k : Nat) (raws : List (Int × Value)), k + gk = l.length ∧ i = .int .i64 k ∧ wr.ownsRow w.heap.size 47 2 v k (raws.flatMap encK) ∧ Elems w.heap.size wr v.ownBlock raws (l.take k) ∧ Below w.heap.size w wr ∧ OVr w.heap.size wr v.ownBlock raws)
  case atStart => exact ⟨0, [], by omega, rfl, World.ownsRow_nil _ _ _ _, Elems.nil, Below.refl _ _, OVr.nil⟩
  case round =>
    obtain ⟨k, raws, hk, rfl, hO, hE, hb, hV⟩ := hrel
    have hk' : k ≤ l.length := by omega
    have HK := Lib.hid hk
    clear hk
    have hsz := hb.size
    have hrl : raws.length = k := by rw [hE.1]; simp; omega
    have HRL := Lib.hid hrl
    clear hrl
    by_cases hlt : k < l.length
    · obtain ⟨b1, off1, A1, c1, rfl, hlw, hw1, hw2, hr, hcap⟩ := hx.at_ hlt
      have hc1 := (hb.cell (p := ⟨b1, _, none⟩) hlw).trans hw1
      have hc2 := (hb.cell (p := ⟨b1, _, none⟩) hlw).trans hw2
      have hln := HALL.out _ (List.getElem_mem hlt)
      go_wp2_with fail
      refine (twin_made l[k].1 A1 c1 l[k].2 _ (hr.keep hb) hln).mono ?_
      rintro _ w3 ⟨A3, c3, rfl, r3, hc3, hb3, hM3⟩
      have hO3 := own_keep hO hb3
      have hE3 := hE.keep hb3
      have hne := r3.apart hO (Nat.le_refl _)
      have hB3 := bstep hb hb3
      have hs3 := hB3.size
      have HT : Hid (l.take (k + 1) = l.take k ++ [(l[k].1, l[k].2)]) := Lib.hid (List.take_succ_eq_append_getElem hlt)
      have hV3 := hV.keep hb3
      clear hc1 hc2 hb3
      go_wp2_with (at_builtin; refine wpList_append_lies _ rfl _ _ 37 rfl w.heap.size 47 i0 _ 2 32 Try.underlying37 hi0 hz0 hz1 hz2 rfl (by decide) _ k _ rfl (hO3.alloc _) ⟨w3.heap.size, 0, none⟩ 1 1 (encK (l[k].1, .slice A3 l[k].2.length c3)) rfl rfl (enc_news _ rfl) encK_one (by omega) (by unfold maxLen; omega) (by omega) (by simp; omega) (w3.heap.size + 1) (by simp) ?_; intro g4 c4 w4 hown4 hgrow4 hat4 hlt4)
      have hE4 := (hE3.keep (balloc (Below.refl _ _) (.cells #[.int .i64 l[k].1, .slice A3 l[k].2.length c3] 47))).push (a := l[k].1) ((r3.mono hsz).keep (balloc (Below.refl _ _) (.cells #[.int .i64 l[k].1, .slice A3 l[k].2.length c3] 47))) hc3 hne hgrow4 hat4 (by simp)
      have hV4 := (hV3.keep (balloc (Below.refl _ _) (.cells #[.int .i64 l[k].1, .slice A3 l[k].2.length c3] 47))).push (a := l[k].1) (c := c3) hln ((hM3.mono hsz).keep (balloc (Below.refl _ _) (.cells #[.int .i64 l[k].1, .slice A3 l[k].2.length c3] 47))) hne hgrow4 hat4 (by simp)
      go_roundg (gk - 1)
      case rel => exact ⟨k + 1, _, by have := HK.out; omega, by go_num, by rw [flat_snoc]; exact hown4, by rw [HT.out]; exact hE4, own_below (balloc hB3 _) (hO3.alloc _) hgrow4 (Nat.le_refl _) (by simp; omega), hV4⟩
      case measure => have := HK.out; omega
    · obtain rfl : k = l.length := by omega
      rw [List.take_length] at hE
      obtain ⟨A', c', rfl, hcc⟩ := own_shape' hO
      go_wp2
      go_ret
      exact ⟨A', c', rfl, own_RBo hO hE HRL.out, hcc, hb, hV.over hO HRL.out⟩
end Go.Proofs.Ytbejkfeloffccaa
