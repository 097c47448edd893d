/-
  Layer 12 (bank): Split at any input; Twin; banks that are overwritten; the walk of BankMakes.
-/
import Derived.Test.YtnhjeelcgfobnaaBkU
import Derived.Test.YtnhjeelcgfobnaaBkQ
namespace Go.Proofs.Ytnhjeelcgfobnaa
open Go.RowKit Num
set_option maxRecDepth 8000
set_option linter.unusedVariables false
set_option linter.unusedSimpArgs false
namespace Bk
open Lol Crs

theorem split_any (p n : Int) (A : Option Addr) (c : Nat) (s : List Int) (w : World) (hp1 : -9223372036854775808 ≤ p) (hp2 : p ≤ 9223372036854775807) (hx : RI .i64 w A s) (hl : s.length ≤ 9223372036854775807) (hcap : s.length ≤ c) :
    Calls Try.prog 20 #[.int .i64 p, .int .i64 n, .slice A s.length c] w (RetLL .i64 w (splitS p n s)) := by
  by_cases h : strE p n s = 0
  · obtain ⟨P, N, rfl, rfl, hS⟩ := str_zero h
    exact split_good P N A c s w hx hcap hS
  · exact split_err p n A c s w hp1 hp2 hx hl h
theorem wpList_clone_RIo {P : Program} (w0 : World) {ops : Array Oper} {rest : List Oper} {o : Oper} {a : Act} {Q : Exit → Act → World → Prop} (hgd : o.guard = none) (s x : Operand) (t : TypeId)
    (ho : o.op = .call { callee := .builtin .append, args := #[s, x], argTypes := #[t, t] })
    (e : TypeId) {i : TypeInfo} {z : Value} (bytes : Nat) (ht : P.underlying t = some (.slice e)) (hi : P.info? e = some i) (hz : i.zero = some z)
    (hsize : i.size = 1) (hby : i.bytes = bytes) (hzs : z.cells.size = 1) (k : IntKind)
    (g : Nat) (hs0 : a.eval s = .slice (some ⟨g, 0, none⟩) 0 0) (hg : g = w0.heap.size)
    (A : Option Addr) (m c : Nat) (xs : List Int) (hm : xs.length = m) (hx : a.eval x = .slice A m c) (hr : RI k w0 A xs)
    (h63 : m ≤ maxLen) (hbytes : m * bytes ≤ 140737488355328)
    (h : ∀ A' c' w', m ≤ c' → RIo k w0.heap.size w' A' xs → Below w0.heap.size w0 w' → wpList P ops Q rest (a.put o.dst (.slice A' m c')) w') : wpList P ops Q (o :: rest) a (w0.alloc (.cells #[] e)) := by
  subst hg
  subst hm
  have hs := hs0
  have hown : (w0.alloc (.cells #[] e)).ownsRow w0.heap.size e 1 (.slice (some ⟨w0.heap.size, 0, none⟩) 0 0) 0 (([] : List Int).flatMap (encI k)) := by
    have := own_blk (size := 1) (n := 0) (Blk.new w0 e #[]) (Nat.le_refl _) (by simp) (by unfold maxLen; omega)
    simpa using this
  refine wpList_append_RI _ hgd s x t ho w0.heap.size e i z bytes ht hi hz hsize hby hzs k _ 0 [] hs hown A c xs hx (hr.keep (balloc (Below.refl _ _) _)) (by omega) (by rw [Nat.zero_add]; exact hbytes) (by simp) ?_
  intro v1 w1 hown1 hgrow1
  rw [Nat.zero_add, List.nil_append] at hown1
  obtain ⟨A1, c1, rfl, hc1⟩ := own_shape' hown1
  exact h A1 c1 w1 hc1 (own_RIo hown1) (own_below (balloc (Below.refl _ _) _) hown hgrow1 (Nat.le_refl _) (by simp))
set_option maxHeartbeats 4000000 in
theorem twin12_any (A : Option Addr) (c : Nat) (b : List (List Int)) (w : World) (hx : RLL .i64 w A b) (hl : b.length ≤ 300) (hb3 : ∀ l ∈ b, l.length ≤ 30) :
    Calls Try.prog 19 #[.slice A b.length c] w fun e w' => (∃ A c, e = .returned (.slice A b.length c) ∧ RLL .i64 w' A b) ∧ Below w.heap.size w w' := by
  obtain ⟨i0, hi0, hz0, hz1, hz2⟩ := info_int64
  obtain ⟨j0, hj0, jy0, jy1, jy2⟩ := info_parts info_ints64
  have HB3 := Lib.hid hb3
  have HID := Lib.hid (fullL_id (d := []) b)
  clear hb3
  go_enter Try.func19, Try.ntmps19
  go_wp2
  go_loopg [3, 4] b.length (fun gk v i wr => ∃ (t : Nat) (raws : List Value), t + gk = b.length ∧ i = .int .i64 t ∧ wr.ownsRow w.heap.size 31 1 v t raws ∧ Els .i64 w.heap.size wr v.ownBlock raws (fullL (fun t => b.getD t []) t) ∧ Below w.heap.size w wr)
  case atStart => exact ⟨0, [], by omega, rfl, World.ownsRow_nil _ _ _ _, Els.nil, Below.refl _ _⟩
  case round =>
    obtain ⟨t, raws, ht, rfl, hO, hE, hb⟩ := hrel
    have ht' : t ≤ b.length := by omega
    have HK := Lib.hid ht
    clear ht
    have hsz := hb.size
    obtain ⟨As, cs, rfl, hcs⟩ := own_shape' hO
    by_cases hlt : t < b.length
    · obtain ⟨b1, off1, A', c', rfl, hlw1, hc1, hr, hcap1⟩ := hx.at_ (i := t) hlt
      have hc2 := (hb.cell (p := ⟨b1, off1 + t, none⟩) hlw1).trans hc1
      have hlw : b1 < wr.heap.size := Nat.lt_of_lt_of_le hlw1 hsz
      have hbl := HB3.out _ (List.getElem_mem hlt)
      have HFS := Lib.hid (fullL_succ (fun t => b.getD t []) t)
      have HGE := Lib.hid (getD_lt b [] hlt)
      have hrr := hr.keep hb
      generalize hrow : b[t] = row at *
      clear hrow
      go_wp2_with (first
        | (at_builtin; refine wpList_clone_RIo wr rfl (.tmp 12) (.tmp 16) 31 rfl 2 8 Try.underlying31 hi0 hz0 hz1 hz2 rfl .i64 _ rfl (by simp) A' row.length c' row rfl rfl hrr (by unfold maxLen; omega) (by omega) ?_; intro A2 c2 w2 hcp2 r2 hb2; have hO2 := own_keep hO hb2; have hs2 := hb2.size)
        | (at_builtin; refine wpList_append_lies _ rfl (.tmp 11) (.tmp 18) 22 rfl w.heap.size 31 j0 _ 1 24 Try.underlying22 hj0 jy0 jy1 jy2 rfl (by decide) _ t _ rfl (World.ownsRow.alloc hO2 _) ⟨w2.heap.size, 0, none⟩ 1 1 [.slice A2 row.length c2] rfl rfl (enc_news _ rfl) one_slice (by omega) (by unfold maxLen; omega) (by omega) (by simp; omega) (w2.heap.size + 1) (by simp) ?_; intro g4 c4 w4 hown4 hgrow4 hat4 hlt4)
        | fail)
      have hB4 := own_below (balloc (bstep hb hb2) (.cells #[.slice A2 row.length c2] 31)) (hO2.alloc _) hgrow4 (Nat.le_refl _) (by simp; omega)
      have hne := r2.apart hO (Nat.le_refl _)
      have hE4 := ((hE.keep hb2).keep (balloc (Below.refl _ _) (.cells #[.slice A2 row.length c2] 31))).push (c := c2) ((r2.mono hsz).keep (balloc (Below.refl _ _) (.cells #[.slice A2 row.length c2] 31))) hcp2 hne hgrow4 hat4 (by simp)
      go_roundg (gk - 1)
      case rel => exact ⟨t + 1, _, by have := HK.out; omega, by go_num, hown4, by rw [HFS.out, HGE.out]; exact hE4, hB4⟩
      case measure => have := HK.out; omega
    · obtain rfl : t = b.length := by omega
      rw [HID.out] at hE
      have hR := own_RLL hO hE
      go_wp2
      go_ret
      exact ⟨⟨_, _, rfl, hR⟩, hb⟩
/-! ### a bank that is overwritten -/
def Over (B : Nat) (A : Option Addr) (N : Nat) (w : World) : Prop :=
  0 < N → ∃ g raws, A = some ⟨g, 0, none⟩ ∧ Blk w g 31 raws ∧ ∀ t, t < N → ∃ G n cs, raws[t]? = some (.slice (some ⟨G, 0, none⟩) n n) ∧ B ≤ G ∧ Blk w G 2 cs ∧ cs.size = n ∧ n ≤ 1000
theorem Over.keep {B N : Nat} {A : Option Addr} {w w' : World} (h : Over B A N w) (hb : Below w.heap.size w w') : Over B A N w' := by
  intro h0
  obtain ⟨g, raws, e, h1, h2⟩ := h h0
  refine ⟨g, raws, e, h1.keep hb, fun t ht => ?_⟩
  obtain ⟨G, n, cs, h3, h4, h5, h6⟩ := h2 t ht
  exact ⟨G, n, cs, h3, h4, h5.keep hb, h6⟩
theorem Over.store {B N G x : Nat} {A : Option Addr} {w : World} {cs : Array Value} (h : Over B A N w) (hG : Blk w G 2 cs) (u : Value) : Over B A N (w.setCell ⟨G, x, none⟩ u) := by
  intro h0
  obtain ⟨g, raws, e, h1, h2⟩ := h h0
  refine ⟨g, raws, e, h1.far (fun e2 => ?_) u, fun t ht => ?_⟩
  · simp only at e2
    subst e2
    unfold Blk at h1 hG
    rw [h1] at hG
    injection hG with hG
    injection hG with _ hG _
    exact absurd hG (by decide)
  · obtain ⟨G2, n, cs2, h3, h4, h5, h6, h7⟩ := h2 t ht
    by_cases e2 : G2 = G
    · subst e2
      exact ⟨G2, n, _, h3, h4, h5.put x u, by simpa using h6, h7⟩
    · exact ⟨G2, n, cs2, h3, h4, h5.far (by simpa using e2) u, h6, h7⟩
theorem over_grid {w w' : World} {r : List (List Int) × Int} {A : Option Addr} (h1 : r.1 = [] ∨ ∃ g raws, A = some ⟨g, 0, none⟩ ∧ w.heap.size ≤ g ∧ Blk w' g 31 raws.toArray ∧ Grid (g + 1) w'.heap.size w' raws r.1) (hs : ∀ l ∈ r.1, l.length ≤ 1000) : Over w.heap.size A r.1.length w' := by
  intro h0
  rcases h1 with h1 | ⟨g, raws, e, hg, hk, hG⟩
  · rw [h1] at h0; simp at h0
  · refine ⟨g, raws.toArray, e, hk, fun t ht => ?_⟩
    obtain ⟨G, e2, h3, h4, h5⟩ := hG.2 t (by rw [hG.1]; exact ht) ht
    refine ⟨G, r.1[t].length, _, ?_, by omega, h5, ?_, hs _ (List.getElem_mem ht)⟩
    · rw [List.getElem?_toArray, List.getElem?_eq_getElem (by rw [hG.1]; exact ht), e2]
    · simp [flatI]
theorem keep_small2 (p : Int) (b : List (List Int)) (kp : List Bool) : (keepS p b kp).1.length ≤ 256 ∧ ∀ l ∈ (keepS p b kp).1, l.length ≤ 1000 := by
  unfold keepS
  split
  · simp
  · rename_i h
    simp only [ne_eq, Decidable.not_not] at h
    obtain ⟨P, rfl, h7, h2, hP, hB⟩ := both_zero h
    split
    · simp
    · refine ⟨by show (grd _ _ _).length ≤ 256; rw [grd_len]; exact hB.len, fun l hl => ?_⟩
      obtain ⟨t, _, rfl⟩ := List.mem_map.1 hl
      rw [fullL_len]
      have := hB.wid16
      omega
end Bk
end Go.Proofs.Ytnhjeelcgfobnaa
