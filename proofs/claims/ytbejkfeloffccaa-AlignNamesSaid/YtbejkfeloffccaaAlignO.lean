/-
  Contract: align.appendCopies.
-/
import Derived.Test.YtbejkfeloffccaaAlignN
namespace Go.Proofs.Ytbejkfeloffccaa
open Go.RowKit
set_option linter.unusedVariables false

theorem below_none {W w1 : World} (hg : W.grownBy w1 none) : Below W.heap.size W w1 := (Below.refl _ _).grown hg (Nat.le_refl _) (fun k hk => by cases hk)
theorem own_drew {w : World} {base : Nat} {e : TypeId} {s n : Nat} {v : Value} {xs : List Value} (h : w.ownsRow base e s v n xs) : w.drew.ownsRow base e s v n xs := World.ownsRow.drew h
theorem Elems.drew {base : Nat} {w : World} {own : Option Nat} {raws : List (Int × Value)} {l : List (Int × List Int)} (h : Elems base w own raws l) : Elems base w.drew own raws l := h
set_option maxHeartbeats 8000000 in
theorem appendCopies_any (w0 : World) (va : Value) (n : Nat) (raws : List (Int × Value)) (l : List (Int × List Int)) (A : Option Addr) (c : Nat) (m : List (Int × List Int)) (w : World) (hO : w.ownsRow w0.heap.size 47 2 va n (raws.flatMap encK)) (hE : Elems w0.heap.size w va.ownBlock raws l) (hn : raws.length = n) (hn2 : n ≤ 100) (hx : RB w0 A m) (hl : m.length ≤ 64) (hall : ∀ b ∈ m, b.2.length ≤ 1000000) (hb : Below w0.heap.size w0 w) :
    Calls Try.prog 48 #[va, .slice A m.length c] w fun e w' => ∃ v' raws', e = .returned v' ∧ w'.ownsRow w0.heap.size 47 2 v' (n + m.length) (raws'.flatMap encK) ∧ Elems w0.heap.size w' v'.ownBlock raws' (l ++ m) ∧ raws'.length = n + m.length ∧ (∀ g t cs, Blk w g t cs → va.ownBlock ≠ some g → Blk w' g t cs) ∧ (v'.ownBlock = va.ownBlock ∨ ∃ H, v'.ownBlock = some H ∧ w.heap.size ≤ H) ∧ w.heap.size ≤ w'.heap.size ∧ Below w0.heap.size w0 w' := by
  have HALL := Lib.hid hall
  have HN := Lib.hid hn
  clear hall hn
  obtain ⟨i0, hi0, hz0, hz1, hz2⟩ := info_parts info_int
  obtain ⟨j0, hj0, hy0, hy1, hy2⟩ := info_parts info_block
  go_enter Try.func48, Try.ntmps48
  go_wp2
  go_loopg [0, 6, 9] m.length (fun gk v _ i wr => ∃ (k : Nat) (raws : List (Int × Value)), k + gk = m.length ∧ i = .int .i64 k ∧ wr.ownsRow w0.heap.size 47 2 v (n + k) (raws.flatMap encK) ∧ Elems w0.heap.size wr v.ownBlock raws (l ++ m.take k) ∧ Hid (raws.length = n + k) ∧ Hid ((∀ g t cs, Blk w g t cs → va.ownBlock ≠ some g → Blk wr g t cs) ∧ (v.ownBlock = va.ownBlock ∨ ∃ H, v.ownBlock = some H ∧ w.heap.size ≤ H)) ∧ w.heap.size ≤ wr.heap.size ∧ Below w0.heap.size w0 wr)
  case atStart => exact ⟨0, raws, by omega, rfl, hO, by simpa using hE, HN, Lib.hid ⟨fun g t cs h _ => h, .inl rfl⟩, Nat.le_refl _, hb⟩
  case round =>
    clear hO hE hb HN
    obtain ⟨k, raws, hk, rfl, hO, hE, HRL, HKP, hww, hb⟩ := hrel
    have hk' : k ≤ m.length := by omega
    have HK := Lib.hid hk
    clear hk
    have hsz := hb.size
    by_cases hlt : k < m.length
    · obtain ⟨b1, off1, A1, c1, rfl, hlw, hw1, hw2, hr, hcap⟩ := hx.at_ hlt
      have hc1 := (hb.cell (p := ⟨b1, _, none⟩) hlw).trans hw1
      have hc2 := (hb.cell (p := ⟨b1, _, none⟩) hlw).trans hw2
      have hln := HALL.out _ (List.getElem_mem hlt)
      have hV := Blk.new wr 47 #[.int .i64 m[k].1, .slice A1 m[k].2.length c1]
      have hb' := balloc hb (.cells #[.int .i64 m[k].1, .slice A1 m[k].2.length c1] 47)
      have hO' := hO.alloc (.cells #[.int .i64 m[k].1, .slice A1 m[k].2.length c1] 47)
      have hE' := hE.keep (balloc (Below.refl _ _) (.cells #[.int .i64 m[k].1, .slice A1 m[k].2.length c1] 47))
      have HT : Hid (l ++ m.take (k + 1) = (l ++ m.take k) ++ [(m[k].1, m[k].2)]) := Lib.hid (by rw [List.take_succ_eq_append_getElem hlt, List.append_assoc])
      go_wp2
      go_region_held3 (fun w' => w'.cell? ⟨wr.heap.size, 0, none⟩ = some (.int .i64 m[k].1) ∧ w'.cell? ⟨wr.heap.size, 1, none⟩ = some (.slice A1 m[k].2.length c1))
        (first | go_keep | exact ⟨hV1.cell 0, hV1.cell 1⟩ | exact ⟨hV2.cell 0, hV2.cell 1⟩ | exact ⟨hV4.cell 0, hV4.cell 1⟩)
        ((first
          | (refine step_clone_RI _ (by rfl) (.const (.slice none 0 0)) (.tmp 17) 22 (by rfl) (wr.heap.size + 1) 3 8 Try.underlying22 hi0 hz0 hz1 hz2 rfl .i64 (.slice none 0 0) (by rfl) (World.ownsRow_nil _ _ _ _) A1 c1 m[k].2 (by rfl) (hr.keep hb'.drew) (by unfold maxLen; omega) (by omega) (by simp [World.drew]) ?_; intro A3 c3 w3 hc3 hown3 hgrow3; have hbn := below_none hgrow3; have hV1 := hV.drew.keep hbn; have hO3 := own_keep (own_drew hO') hbn; have hE3 := (Elems.drew hE').keep hbn; have r3 := own_RIo hown3; have hB3 : Below w0.heap.size w0 w3 := bstep hb'.drew hbn; have hV2 := hV1.alloc (.cells #[.int .i64 m[k].1, .slice A3 m[k].2.length c3] 47); have hs3 := hB3.size; have hVl := hV1.lt)
          | (refine step_append_lies _ (by rfl) (.tmp 13) (.tmp 20) _ (by rfl) w0.heap.size 47 j0 _ 2 32 Try.underlying37 hj0 hy0 hy1 hy2 rfl (by omega) _ (n + k) (raws.flatMap encK) (by rfl) (hO3.alloc _) ⟨w3.heap.size, 0, none⟩ 1 1 (encK (m[k].1, .slice A3 m[k].2.length c3)) (by rfl) (by rfl) (enc_news _ rfl) encK_one (by omega) (by unfold maxLen; omega) (by omega) (by simp; omega) (w3.heap.size + 1) (by simp) ?_; intro g4 c4 w4 hown4 hgrow4 hat4 hlt4; have hV4 := hV2.grown hgrow4 (fun h2 => by have := (hO.lt _ h2.symm).2; omega))))
      have hne := r3.apart hO (by omega)
      have hE4 := (hE3.keep (balloc (Below.refl _ _) (.cells #[.int .i64 m[k].1, .slice A3 m[k].2.length c3] 47))).push (a := m[k].1) ((r3.mono (by omega)).keep (balloc (Below.refl _ _) (.cells #[.int .i64 m[k].1, .slice A3 m[k].2.length c3] 47))) hc3 hne hgrow4 hat4 (by simp)
      have hB4 := own_below (balloc hB3 (.cells #[.int .i64 m[k].1, .slice A3 m[k].2.length c3] 47)) (hO3.alloc _) hgrow4 (Nat.le_refl _) (by simp; omega)
      have hww4 : w.heap.size ≤ w4.heap.size := by have := hgrow4.size; have := hbn.size; simp [World.drew] at *; omega
      have HKP4 : Hid ((∀ g t cs, Blk w g t cs → va.ownBlock ≠ some g → Blk w4 g t cs) ∧ ((Value.slice (some ⟨g4, 0, none⟩) (n + k + 1) c4).ownBlock = va.ownBlock ∨ ∃ H, (Value.slice (some ⟨g4, 0, none⟩) (n + k + 1) c4).ownBlock = some H ∧ w.heap.size ≤ H)) := Lib.hid (by
        obtain ⟨kp, ow⟩ := HKP.out
        constructor
        · intro g t cs h hne2
          have h1 := (((kp g t cs h hne2).alloc (.cells #[.int .i64 m[k].1, .slice A1 m[k].2.length c1] 47)).drew).keep hbn
          refine (h1.alloc (.cells #[.int .i64 m[k].1, .slice A3 m[k].2.length c3] 47)).grown hgrow4 (fun h3 => ?_)
          rcases ow with ow | ⟨H, ow, hH⟩
          · exact hne2 (by rw [← ow]; exact h3.symm)
          · rw [ow] at h3
            injection h3 with h3
            have := h.lt
            omega
        · rcases hat4 with h4 | h4
          · rcases ow with ow | ⟨H, ow, hH⟩
            · exact .inl (by rw [← ow, h4]; rfl)
            · exact .inr ⟨H, by rw [← ow, h4]; rfl, hH⟩
          · exact .inr ⟨g4, rfl, by omega⟩)
      go_wp2
      go_roundg (gk - 1)
      case rel => exact ⟨k + 1, raws ++ [(m[k].1, .slice A3 m[k].2.length c3)], by have := HK.out; omega, by go_num, by rw [flat_snoc]; exact hown4, by rw [HT.out]; exact hE4, Lib.hid (by have := HRL.out; simp; omega), HKP4, hww4, hB4⟩
      case measure => have := HK.out; omega
    · obtain rfl : k = m.length := by omega
      rw [List.take_length] at hE
      go_wp2
      go_ret
      exact ⟨_, raws, rfl, hO, hE, HRL.out, HKP.out.1, HKP.out.2, hww, hb⟩

theorem appendCopies_at (w0 : World) (va : Value) (n : Nat) (raws : List (Int × Value)) (l : List (Int × List Int)) (A : Option Addr) (c : Nat) (m : List (Int × List Int)) (w : World) (k : Nat) (hk : m.length = k) (hO : w.ownsRow w0.heap.size 47 2 va n (raws.flatMap encK)) (hE : Elems w0.heap.size w va.ownBlock raws l) (hn : raws.length = n) (hn2 : n ≤ 100) (hx : RB w0 A m) (hl : k ≤ 64) (hall : ∀ b ∈ m, b.2.length ≤ 1000000) (hb : Below w0.heap.size w0 w) :
    Calls Try.prog 48 #[va, .slice A k c] w fun e w' => ∃ v' raws', e = .returned v' ∧ w'.ownsRow w0.heap.size 47 2 v' (n + k) (raws'.flatMap encK) ∧ Elems w0.heap.size w' v'.ownBlock raws' (l ++ m) ∧ raws'.length = n + k ∧ (∀ g t cs, Blk w g t cs → va.ownBlock ≠ some g → Blk w' g t cs) ∧ (v'.ownBlock = va.ownBlock ∨ ∃ H, v'.ownBlock = some H ∧ w.heap.size ≤ H) ∧ w.heap.size ≤ w'.heap.size ∧ Below w0.heap.size w0 w' := by
  subst hk
  exact appendCopies_any w0 va n raws l A c m w hO hE hn hn2 hx hl hall hb
end Go.Proofs.Ytbejkfeloffccaa
