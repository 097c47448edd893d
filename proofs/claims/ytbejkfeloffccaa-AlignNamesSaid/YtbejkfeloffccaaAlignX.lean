/-
  Put twice, Put in either order, how many samples. Plain lists, no program in sight.
-/
import Derived.Test.YtbejkfeloffccaaAlignW
namespace Go.Proofs.Ytbejkfeloffccaa
set_option linter.unusedVariables false

section
variable {l : List (Int × List Int)} {b c m : Int × List Int}
theorem put_inv (h : (putS l b).2 = 0) : recErr l = 0 ∧ okB b = true ∧ refAg l b = true ∧ jTo (midOf l b) b - jFrom (midOf l b) b ≤ 256 ∧ (putL l b).length ≤ 64 ∧ putS l b = (putL l b, 0) := by
  by_cases h1 : recErr l = 0
  · cases h2 : okB b with
    | false => rw [put_bad h1 h2] at h; simp at h
    | true =>
      cases h3 : refAg l b with
      | false => rw [put_twice h1 h2 h3] at h; simp at h
      | true =>
        by_cases h4 : jTo (midOf l b) b - jFrom (midOf l b) b ≤ 256
        · by_cases h5 : (putL l b).length ≤ 64
          · exact ⟨h1, rfl, rfl, h4, h5, put_ok h1 h2 h3 h4 h5⟩
          · rw [put_many h1 h2 h3 h4 (by omega)] at h; simp at h
        · rw [put_range h1 h2 h3 (by omega)] at h; simp at h
  · rw [put_err h1] at h; exact absurd h h1
theorem put_len0 (h : (putS l b).2 ≠ 0) : (putS l b).1 = [] := by
  unfold putS at h ⊢
  repeat' split
  all_goals first | rfl | skip
  rename_i h1 h2 h3 h4 h5
  rw [if_neg h1, if_neg h2, if_neg h3, if_neg h4, if_neg h5] at h
  exact absurd rfl h
theorem digit_at {xs : List Int} (h : streamErr xs = 0) (k : Nat) : 0 ≤ digitOf (xs.getD k 0) := by
  rcases Nat.lt_or_ge k xs.length with h1 | h1
  · rw [getD_lt _ _ h1]; exact (streamErr_zero h).2 _ (List.getElem_mem h1)
  · rw [List.getD_eq_getElem?_getD, List.getElem?_eq_none h1]; decide
theorem digit_samp (hA : Apart l) (t : Int) : 0 ≤ digitOf (sampAt l t) := by
  by_cases hex : ∃ m ∈ l, m.1 ≤ t ∧ t < endB m
  · obtain ⟨m, hm, h1, h2⟩ := hex
    rw [sampAt_mem hA hm h1 h2]
    exact digit_at (okB_bd (apart_ok hA hm)).2.2.2.2 _
  · rw [sampAt_out fun m hm hc => hex ⟨m, hm, hc⟩]; decide
theorem join_ok (hA : Apart l) (hb : okB b = true) (h : jTo (midOf l b) b - jFrom (midOf l b) b ≤ 256) : okB (joinB l b) = true := by
  have hJ := join_spec (b := b) hA
  have h1 := okB_bd hb
  have h2 := okB_pos hb
  have h3 := hJ.f1
  have h4 := hJ.t1
  have h0 : 0 ≤ jFrom (midOf l b) b := by
    rcases hJ.f3 with e | ⟨m, hm, _, e⟩
    · omega
    · have := okB_bd (apart_ok hA hm); omega
  rw [joinB_eq hA]
  unfold okB
  refine decide_eq_true ⟨h0, by simp only; omega, by simp only [fullL_len]; omega, streamErr_ok (by rw [fullL_len]; omega) fun x hx => ?_⟩
  unfold fullL at hx
  obtain ⟨i, _, rfl⟩ := List.mem_map.1 hx
  unfold valB
  split
  · unfold sB; exact digit_at h1.2.2.2.2 _
  · exact digit_samp hA _
theorem recOk_of (hA : Apart l) (k : Nat) (hk : k ≤ l.length) : recOk l k = true := by
  induction k with
  | zero => rfl
  | succ k ih =>
    unfold recOk
    rw [ih (by omega), getD_lt _ _ (show k < l.length by omega), hA.1 k (by omega)]
    simp only [Bool.true_and, decide_eq_true_eq]
    rcases Nat.eq_zero_or_pos k with e | e
    · exact .inl e
    · refine .inr ?_
      rw [getD_lt _ _ (show k - 1 < l.length by omega)]
      exact hA.lt (by omega) (by omega)
theorem rec_of (hA : Apart l) (h : l.length ≤ 64) : recErr l = 0 := recErr_ok h (recOk_of hA _ (Nat.le_refl _))
theorem sB_add (b : Int × List Int) (k : Nat) : sB b (b.1 + k) = b.2.getD k 0 := by
  unfold sB; congr 1; omega
theorem ag_iff : refAg l b = true ↔ ∀ t, b.1 ≤ t → t < endB b → clash (sB b t) (sampAt l t) = false := by
  constructor
  · intro h t h1 h2
    unfold refAg at h
    rw [List.all_eq_true] at h
    unfold endB at h2
    have h3 := h (t - b.1).toNat (by simp; omega)
    have e : b.1 + ((t - b.1).toNat : Int) = t := by omega
    rw [e] at h3
    unfold sB
    simpa using h3
  · intro h
    refine refAg_yes fun k hk => ?_
    have := h (b.1 + k) (by omega) (by unfold endB; omega)
    rwa [sB_add] at this
theorem clash_no {x y : Int} (h : clash x y = false) (hx : x ≠ 0) (hy : y ≠ 0) : x = y := by
  unfold clash at h
  simpa [hx, hy] using h
theorem clash_is {x y : Int} (h : clash x y = true) : x ≠ 0 ∧ y ≠ 0 ∧ x ≠ y := by
  unfold clash at h
  simpa using h
theorem clash_mk {x y : Int} (h1 : x ≠ 0) (h2 : y ≠ 0) (h3 : x ≠ y) : clash x y = true := by
  unfold clash
  simp [h1, h2, h3]
theorem val_keep (ha : refAg l b = true) {t : Int} (h : sampAt l t ≠ 0) : valB l b t = sampAt l t := by
  unfold valB
  split
  · rename_i h1
    exact clash_no (ag_iff.1 ha t h1.1 h1.2.1) h1.2.2 h
  · rfl
/-- Putting a block again changes nothing. -/
theorem put_again (h : (putS l b).2 = 0) : recErr (putL l b) = 0 ∧ putS (putL l b) b = (putL l b, 0) := by
  obtain ⟨h1, h2, h3, h4, h5, h6⟩ := put_inv h
  have hA := rec_apart h1
  have hj := join_ok hA h2 h4
  have hX := put_apart hA h2 hj
  have hr := rec_of hX h5
  have hJ := join_spec (b := b) hA
  have hJ' := join_spec (b := b) hX
  have hE := joinB_end hA h2
  have hin : joinB l b ∈ putL l b := (mem_put hA).2 (.inr rfl)
  have ht := joinB_touch hA h2
  have honly : ∀ m ∈ putL l b, touch m b → m = joinB l b := by
    intro m hm hmt
    rcases (mem_put hA).1 hm with e | e
    · exact absurd hmt e.2
    · exact e
  have eF : jFrom (midOf (putL l b) b) b = jFrom (midOf l b) b := by
    have g1 := hJ'.f2 _ hin ht
    rw [joinB_1] at g1
    have g2 := hJ.f1
    rcases hJ'.f3 with e | ⟨m, hm, hmt, e⟩
    · omega
    · rw [honly m hm hmt, joinB_1] at e; exact e
  have eT : jTo (midOf (putL l b) b) b = jTo (midOf l b) b := by
    have g1 := hJ'.t2 _ hin ht
    rw [hE] at g1
    have g2 := hJ.t1
    rcases hJ'.t3 with e | ⟨m, hm, hmt, e⟩
    · omega
    · rw [honly m hm hmt, hE] at e; exact e
  have eV : ∀ t, valB (putL l b) b t = valB l b t := by
    intro t
    by_cases hc : b.1 ≤ t ∧ t < endB b ∧ sB b t ≠ 0
    · rw [valB_in hc, valB_in hc]
    · rw [valB_out hc, samp_put hA h2 hj]
  have eJ : joinB (putL l b) b = joinB l b := by
    rw [joinB_eq hX, joinB_eq hA, eF, eT]
    congr 1
    exact fullL_congr fun i _ => eV _
  have eP : putL (putL l b) b = putL l b := by
    refine apart_ext (put_apart hX h2 (by rw [eJ]; exact hj)) hX fun m => ?_
    rw [mem_put hX, eJ]
    constructor
    · rintro (e | e)
      · exact e.1
      · rw [e]; exact hin
    · intro hm
      by_cases hmt : touch m b
      · exact .inr (honly m hm hmt)
      · exact .inl ⟨hm, hmt⟩
  have hag : refAg (putL l b) b = true := by
    refine ag_iff.2 fun t g1 g2 => ?_
    rw [samp_put hA h2 hj]
    by_cases hc : sB b t = 0
    · exact clash_x (by simp [hc])
    · rw [valB_in ⟨g1, g2, hc⟩]; exact clash_xy (by simp)
  refine ⟨hr, ?_⟩
  have := put_ok hr h2 hag (by rw [eF, eT]; exact h4) (by rw [eP]; exact h5)
  rw [this, eP]

theorem touch_symm : touch b c ↔ touch c b := ⟨fun h => ⟨h.2, h.1⟩, fun h => ⟨h.2, h.1⟩⟩
theorem touch_join (hA : Apart l) (hb : okB b = true) (hc : okB c = true) : touch (joinB l b) c ↔ touch b c ∨ ∃ m ∈ l, touch m b ∧ touch m c := by
  have hJ := join_spec (b := b) hA
  have p1 := okB_pos hb
  have p2 := okB_pos hc
  unfold touch
  rw [joinB_end hA hb, joinB_1]
  constructor
  · rintro ⟨h1, h2⟩
    by_cases c1 : endB b < c.1
    · rcases hJ.t3 with e | ⟨m, hm, ht, e⟩
      · omega
      · exact .inr ⟨m, hm, ht, by omega, by have := ht.2; omega⟩
    · by_cases c2 : endB c < b.1
      · rcases hJ.f3 with e | ⟨m, hm, ht, e⟩
        · omega
        · exact .inr ⟨m, hm, ht, by have := ht.1; omega, by omega⟩
      · exact .inl ⟨by omega, by omega⟩
  · have h1 := hJ.f1
    have h2 := hJ.t1
    rintro (⟨h3, h4⟩ | ⟨m, hm, ht, h3, h4⟩)
    · exact ⟨by omega, by omega⟩
    · have h5 := hJ.f2 m hm ht
      have h6 := hJ.t2 m hm ht
      exact ⟨by omega, by omega⟩
theorem touch_swap (hA : Apart l) (hb : okB b = true) (hc : okB c = true) (h : touch (joinB l b) c) : touch (joinB l c) b := by
  rcases (touch_join hA hb hc).1 h with h1 | ⟨m, hm, h1, h2⟩
  · exact (touch_join hA hc hb).2 (.inl (touch_symm.1 h1))
  · exact (touch_join hA hc hb).2 (.inr ⟨m, hm, h2, h1⟩)
/-- What the order law asks of a recording and two blocks. -/
structure Two (l : List (Int × List Int)) (b c : Int × List Int) : Prop where
  ap : Apart l
  ob : okB b = true
  oc : okB c = true
  jb : okB (joinB l b) = true
  jc : okB (joinB l c) = true
  ab : refAg l b = true
  ac : refAg l c = true
theorem Two.swap (h : Two l b c) : Two l c b := ⟨h.ap, h.oc, h.ob, h.jc, h.jb, h.ac, h.ab⟩
theorem val_two (h : Two l b c) (hag : refAg (putL l b) c = true) (t : Int) : valB (putL l b) c t = valB (putL l c) b t := by
  have e1 := samp_put h.ap h.ob h.jb t
  have e2 := samp_put h.ap h.oc h.jc t
  by_cases hc : c.1 ≤ t ∧ t < endB c ∧ sB c t ≠ 0
  · rw [valB_in hc]
    by_cases hb : b.1 ≤ t ∧ t < endB b ∧ sB b t ≠ 0
    · rw [valB_in hb]
      have := ag_iff.1 hag t hc.1 hc.2.1
      rw [e1, valB_in hb] at this
      exact clash_no this hc.2.2 hb.2.2
    · rw [valB_out hb, e2, valB_in hc]
  · rw [valB_out hc, e1]
    by_cases hb : b.1 ≤ t ∧ t < endB b ∧ sB b t ≠ 0
    · rw [valB_in hb, valB_in hb]
    · rw [valB_out hb, valB_out hb, e2, valB_out hc]
theorem twice_half (h : Two l b c) (hag : refAg (putL l b) c = true) : refAg (putL l c) b = true := by
  refine ag_iff.2 fun t g1 g2 => ?_
  rw [samp_put h.ap h.oc h.jc]
  by_cases hb : sB b t = 0
  · exact clash_x (by simp [hb])
  · by_cases hc : c.1 ≤ t ∧ t < endB c ∧ sB c t ≠ 0
    · rw [valB_in hc]
      have := ag_iff.1 hag t hc.1 hc.2.1
      rw [samp_put h.ap h.ob h.jb, valB_in ⟨g1, g2, hb⟩] at this
      rw [clash_comm]
      exact this
    · rw [valB_out hc]
      exact ag_iff.1 h.ab t g1 g2
/-- The join where the two blocks do not meet. -/
theorem join_far (h : Two l b c) (hn : ¬ touch (joinB l b) c) : joinB (putL l c) b = joinB l b := by
  have hY := put_apart h.ap h.oc h.jc
  have hJ := join_spec (b := b) h.ap
  have hJ' := join_spec (b := b) hY
  have hE := joinB_end h.ap h.ob
  have hnj : ¬ touch (joinB l c) b := fun h1 => hn (touch_swap h.ap h.oc h.ob h1)
  have hmem : ∀ m, (m ∈ putL l c ∧ touch m b) ↔ (m ∈ l ∧ touch m b) := by
    intro m
    rw [mem_put h.ap]
    constructor
    · rintro ⟨(⟨h1, _⟩ | h1), h2⟩
      · exact ⟨h1, h2⟩
      · rw [h1] at h2; exact absurd h2 hnj
    · rintro ⟨h1, h2⟩
      exact ⟨.inl ⟨h1, fun h3 => hn ((touch_join h.ap h.ob h.oc).2 (.inr ⟨m, h1, h2, h3⟩))⟩, h2⟩
  have eF : jFrom (midOf (putL l c) b) b = jFrom (midOf l b) b := by
    have a1 := hJ.f1
    have a2 := hJ'.f1
    rcases hJ.f3 with e | ⟨m, hm, ht, e⟩ <;> rcases hJ'.f3 with e2 | ⟨m2, hm2, ht2, e2⟩
    · omega
    · have := hJ.f2 m2 ((hmem m2).1 ⟨hm2, ht2⟩).1 ht2; omega
    · have := hJ'.f2 m ((hmem m).2 ⟨hm, ht⟩).1 ht; omega
    · have := hJ.f2 m2 ((hmem m2).1 ⟨hm2, ht2⟩).1 ht2
      have := hJ'.f2 m ((hmem m).2 ⟨hm, ht⟩).1 ht
      omega
  have eT : jTo (midOf (putL l c) b) b = jTo (midOf l b) b := by
    have a1 := hJ.t1
    have a2 := hJ'.t1
    rcases hJ.t3 with e | ⟨m, hm, ht, e⟩ <;> rcases hJ'.t3 with e2 | ⟨m2, hm2, ht2, e2⟩
    · omega
    · have := hJ.t2 m2 ((hmem m2).1 ⟨hm2, ht2⟩).1 ht2; omega
    · have := hJ'.t2 m ((hmem m).2 ⟨hm, ht⟩).1 ht; omega
    · have := hJ.t2 m2 ((hmem m2).1 ⟨hm2, ht2⟩).1 ht2
      have := hJ'.t2 m ((hmem m).2 ⟨hm, ht⟩).1 ht
      omega
  rw [joinB_eq hY, joinB_eq h.ap, eF, eT]
  congr 1
  refine fullL_congr fun i hi => ?_
  have p1 := hJ.f1
  by_cases hb : b.1 ≤ jFrom (midOf l b) b + i ∧ jFrom (midOf l b) b + i < endB b ∧ sB b (jFrom (midOf l b) b + i) ≠ 0
  · rw [valB_in hb, valB_in hb]
  · rw [valB_out hb, valB_out hb, samp_put h.ap h.oc h.jc, valB_out]
    intro hc
    apply hn
    unfold touch
    rw [hE, joinB_1]
    exact ⟨by omega, by omega⟩
structure Hull (l : List (Int × List Int)) (b c : Int × List Int) (F T : Int) : Prop where
  f1 : F ≤ b.1 ∧ F ≤ c.1
  f2 : ∀ m ∈ l, (touch m b ∨ touch m c) → F ≤ m.1
  f3 : F = b.1 ∨ F = c.1 ∨ ∃ m ∈ l, (touch m b ∨ touch m c) ∧ F = m.1
  t1 : endB b ≤ T ∧ endB c ≤ T
  t2 : ∀ m ∈ l, (touch m b ∨ touch m c) → endB m ≤ T
  t3 : T = endB b ∨ T = endB c ∨ ∃ m ∈ l, (touch m b ∨ touch m c) ∧ T = endB m
theorem Hull.swap {F T : Int} (h : Hull l b c F T) : Hull l c b F T :=
  ⟨⟨h.f1.2, h.f1.1⟩, fun m hm ht => h.f2 m hm ht.symm, by
    rcases h.f3 with e | e | ⟨m, hm, ht, e⟩
    · exact .inr (.inl e)
    · exact .inl e
    · exact .inr (.inr ⟨m, hm, ht.symm, e⟩), ⟨h.t1.2, h.t1.1⟩, fun m hm ht => h.t2 m hm ht.symm, by
    rcases h.t3 with e | e | ⟨m, hm, ht, e⟩
    · exact .inr (.inl e)
    · exact .inl e
    · exact .inr (.inr ⟨m, hm, ht.symm, e⟩)⟩
theorem Hull.one {F T F' T' : Int} (h : Hull l b c F T) (h' : Hull l b c F' T') : F = F' ∧ T = T' := by
  have a1 := h.f1
  have a2 := h'.f1
  have a3 := h.t1
  have a4 := h'.t1
  have k1 : F' ≤ F := by
    rcases h.f3 with e | e | ⟨m, hm, ht, e⟩
    · omega
    · omega
    · have := h'.f2 m hm ht; omega
  have k2 : F ≤ F' := by
    rcases h'.f3 with e | e | ⟨m, hm, ht, e⟩
    · omega
    · omega
    · have := h.f2 m hm ht; omega
  have k3 : T ≤ T' := by
    rcases h.t3 with e | e | ⟨m, hm, ht, e⟩
    · omega
    · omega
    · have := h'.t2 m hm ht; omega
  have k4 : T' ≤ T := by
    rcases h'.t3 with e | e | ⟨m, hm, ht, e⟩
    · omega
    · omega
    · have := h.t2 m hm ht; omega
  exact ⟨by omega, by omega⟩
theorem hull_join (h : Two l b c) (ht : touch (joinB l b) c) : Hull l b c (jFrom (midOf (putL l b) c) c) (jTo (midOf (putL l b) c) c) := by
  have hX := put_apart h.ap h.ob h.jb
  have hJ := join_spec (b := b) h.ap
  have hK := join_spec (b := c) hX
  have hE := joinB_end h.ap h.ob
  have hin : joinB l b ∈ putL l b := (mem_put h.ap).2 (.inr rfl)
  have g1 := hK.f2 _ hin ht
  have g2 := hK.t2 _ hin ht
  rw [joinB_1] at g1
  rw [hE] at g2
  have a1 := hJ.f1
  have a2 := hJ.t1
  refine ⟨⟨by omega, hK.f1⟩, fun m hm hmt => ?_, ?_, ⟨by omega, hK.t1⟩, fun m hm hmt => ?_, ?_⟩
  · by_cases hb : touch m b
    · have := hJ.f2 m hm hb; omega
    · exact hK.f2 m ((mem_put h.ap).2 (.inl ⟨hm, hb⟩)) (hmt.resolve_left hb)
  · rcases hK.f3 with e | ⟨m, hm, hmt, e⟩
    · exact .inr (.inl e)
    · rcases (mem_put h.ap).1 hm with h1 | h1
      · exact .inr (.inr ⟨m, h1.1, .inr hmt, e⟩)
      · rw [h1, joinB_1] at e
        rcases hJ.f3 with e2 | ⟨m2, hm2, ht2, e2⟩
        · exact .inl (by omega)
        · exact .inr (.inr ⟨m2, hm2, .inl ht2, by omega⟩)
  · by_cases hb : touch m b
    · have := hJ.t2 m hm hb; omega
    · exact hK.t2 m ((mem_put h.ap).2 (.inl ⟨hm, hb⟩)) (hmt.resolve_left hb)
  · rcases hK.t3 with e | ⟨m, hm, hmt, e⟩
    · exact .inr (.inl e)
    · rcases (mem_put h.ap).1 hm with h1 | h1
      · exact .inr (.inr ⟨m, h1.1, .inr hmt, e⟩)
      · rw [h1, hE] at e
        rcases hJ.t3 with e2 | ⟨m2, hm2, ht2, e2⟩
        · exact .inl (by omega)
        · exact .inr (.inr ⟨m2, hm2, .inl ht2, by omega⟩)
theorem join_near (h : Two l b c) (hag : refAg (putL l b) c = true) (ht : touch (joinB l b) c) : joinB (putL l b) c = joinB (putL l c) b := by
  have hX := put_apart h.ap h.ob h.jb
  have hY := put_apart h.ap h.oc h.jc
  have k1 := hull_join h ht
  have k2 := (hull_join h.swap (touch_swap h.ap h.ob h.oc ht)).swap
  obtain ⟨e1, e2⟩ := k1.one k2
  rw [joinB_eq hX, joinB_eq hY, e1, e2]
  congr 1
  exact fullL_congr fun i _ => val_two h hag _
theorem order_half (h : Two l b c) (hag : refAg (putL l b) c = true) (hm : m ∈ putL (putL l b) c) : m ∈ putL (putL l c) b := by
  have hX := put_apart h.ap h.ob h.jb
  have hY := put_apart h.ap h.oc h.jc
  rcases (mem_put hX).1 hm with ⟨h1, h2⟩ | h1
  · rcases (mem_put h.ap).1 h1 with ⟨h3, h4⟩ | h3
    · exact (mem_put hY).2 (.inl ⟨(mem_put h.ap).2 (.inl ⟨h3, h2⟩), h4⟩)
    · rw [h3] at h2 ⊢
      rw [← join_far h h2]
      exact (mem_put hY).2 (.inr rfl)
  · by_cases ht : touch (joinB l b) c
    · rw [h1, join_near h hag ht]
      exact (mem_put hY).2 (.inr rfl)
    · have ht' : ¬ touch (joinB l c) b := fun h2 => ht (touch_swap h.ap h.oc h.ob h2)
      rw [h1, join_far h.swap ht']
      exact (mem_put hY).2 (.inl ⟨(mem_put h.ap).2 (.inr rfl), ht'⟩)
theorem two_of (h : (putS l b).2 = 0) (h' : (putS l c).2 = 0) : Two l b c := by
  obtain ⟨h1, h2, h3, h4, h5, h6⟩ := put_inv h
  obtain ⟨g1, g2, g3, g4, g5, g6⟩ := put_inv h'
  have hA := rec_apart h1
  exact ⟨hA, h2, g2, join_ok hA h2 h4, join_ok hA g2 g4, h3, g3⟩
/-- Two blocks put in either order. -/
theorem order_law (h : (putS l b).2 = 0) (h' : (putS l c).2 = 0) (h2 : (putS (putL l b) c).2 = 0) (h3 : (putS (putL l c) b).2 = 0) : putL (putL l b) c = putL (putL l c) b := by
  have hT := two_of h h'
  obtain ⟨a1, a2, a3, a4, a5, a6⟩ := put_inv h2
  obtain ⟨b1, b2, b3, b4, b5, b6⟩ := put_inv h3
  have hX := rec_apart a1
  have hY := rec_apart b1
  exact apart_ext (put_apart hX a2 (join_ok hX a2 a4)) (put_apart hY b2 (join_ok hY b2 b4)) fun m => ⟨order_half hT a3, order_half hT.swap b3⟩
theorem twice_iff (h1 : recErr l = 0) (h2 : okB b = true) : (putS l b).2 = 14 ↔ refAg l b = false := by
  constructor
  · intro h
    cases h3 : refAg l b with
    | false => rfl
    | true =>
      exfalso
      by_cases h4 : jTo (midOf l b) b - jFrom (midOf l b) b ≤ 256
      · by_cases h5 : (putL l b).length ≤ 64
        · rw [put_ok h1 h2 h3 h4 h5] at h; simp at h
        · rw [put_many h1 h2 h3 h4 (by omega)] at h; simp at h
      · rw [put_range h1 h2 h3 (by omega)] at h; simp at h
  · intro h3; rw [put_twice h1 h2 h3]
theorem twice_law (h : (putS l b).2 = 0) (h' : (putS l c).2 = 0) : (putS (putL l b) c).2 = 14 ↔ (putS (putL l c) b).2 = 14 := by
  have hT := two_of h h'
  rw [twice_iff (put_again h).1 hT.oc, twice_iff (put_again h').1 hT.ob]
  constructor
  · intro h1
    cases h2 : refAg (putL l c) b with
    | false => rfl
    | true => rw [twice_half hT.swap h2] at h1; cases h1
  · intro h1
    cases h2 : refAg (putL l b) c with
    | false => rfl
    | true => rw [twice_half hT h2] at h1; cases h1
end

/-- How many of the first n values are not 0. -/
def nzCnt (f : Nat → Int) : Nat → Int
  | 0 => 0
  | n + 1 => nzCnt f n + if f n = 0 then 0 else 1
theorem cnt_F (xs : List Int) (k : Nat) : cnt xs k = nzCnt (fun i => xs.getD i 0) k := by
  induction k with
  | zero => rfl
  | succ k ih => rw [cnt, nzCnt, ih]
theorem nzCnt_bd (f : Nat → Int) (n : Nat) : 0 ≤ nzCnt f n ∧ nzCnt f n ≤ n := by
  induction n with
  | zero => simp [nzCnt]
  | succ n ih => unfold nzCnt; split <;> omega
theorem nzCnt_congr {f g : Nat → Int} {n : Nat} (h : ∀ i, i < n → (f i = 0 ↔ g i = 0)) : nzCnt f n = nzCnt g n := by
  induction n with
  | zero => rfl
  | succ n ih =>
    rw [nzCnt, nzCnt, ih (fun i hi => h i (by omega))]
    have := h n (by omega)
    by_cases e : f n = 0
    · rw [if_pos e, if_pos (this.1 e)]
    · rw [if_neg e, if_neg (fun e2 => e (this.2 e2))]
theorem nzCnt_split (f : Nat → Int) (a n : Nat) : nzCnt f (a + n) = nzCnt f a + nzCnt (fun i => f (a + i)) n := by
  induction n with
  | zero => simp [nzCnt]
  | succ n ih => rw [← Nat.add_assoc, nzCnt, nzCnt, ih]; omega
theorem nzCnt_zero {f : Nat → Int} {n : Nat} (h : ∀ i, i < n → f i = 0) : nzCnt f n = 0 := by
  induction n with
  | zero => rfl
  | succ n ih => rw [nzCnt, ih (fun i hi => h i (by omega)), if_pos (h n (by omega))]; rfl
theorem nzCnt_at {f : Nat → Int} {a n N : Nat} (hN : a + n ≤ N) (h1 : ∀ i, i < a → f i = 0) (h2 : ∀ i, a + n ≤ i → f i = 0) : nzCnt f N = nzCnt (fun i => f (a + i)) n := by
  obtain ⟨r, rfl⟩ := Nat.le.dest hN
  rw [nzCnt_split, nzCnt_split, nzCnt_zero h1, nzCnt_zero (f := fun i => f (a + n + i)) (fun i _ => h2 _ (by omega))]
  omega
theorem nzCnt_add {f g h : Nat → Int} {n : Nat} (h1 : ∀ i, i < n → (h i = 0 ↔ f i = 0 ∧ g i = 0)) (h2 : ∀ i, i < n → f i = 0 ∨ g i = 0) : nzCnt h n = nzCnt f n + nzCnt g n := by
  induction n with
  | zero => rfl
  | succ n ih =>
    rw [nzCnt, nzCnt, nzCnt, ih (fun i hi => h1 i (by omega)) (fun i hi => h2 i (by omega))]
    have a1 := h1 n (by omega)
    have a2 := h2 n (by omega)
    by_cases e1 : f n = 0 <;> by_cases e2 : g n = 0
    · rw [if_pos e1, if_pos e2, if_pos (a1.2 ⟨e1, e2⟩)]; omega
    · rw [if_pos e1, if_neg e2, if_neg (fun e => e2 (a1.1 e).2)]; omega
    · rw [if_neg e1, if_pos e2, if_neg (fun e => e1 (a1.1 e).1)]; omega
    · exact absurd a2 (by simp [e1, e2])
/-- The samples of one block, by times. -/
def blkF (b : Int × List Int) (i : Nat) : Int := if b.1 ≤ i ∧ (i : Int) < endB b then sB b i else 0
theorem cnt_blk {b : Int × List Int} (h0 : 0 ≤ b.1) {N : Nat} (hN : endB b ≤ N) : nzCnt (blkF b) N = cnt b.2 b.2.length := by
  unfold endB at hN
  rw [nzCnt_at (f := blkF b) (a := b.1.toNat) (n := b.2.length) (by omega) (fun i hi => if_neg (by omega)) (fun i hi => if_neg (by unfold endB; omega)), cnt_F]
  refine nzCnt_congr fun i hi => ?_
  have e : blkF b (b.1.toNat + i) = b.2.getD i 0 := by
    unfold blkF
    rw [if_pos (by unfold endB; omega)]
    unfold sB
    congr 1
    omega
  simp only [e]
theorem cntB_F {l : List (Int × List Int)} (hA : Apart l) {N : Nat} (hN : ∀ m ∈ l, endB m ≤ N) (k : Nat) (hk : k ≤ l.length) : cntB l k = nzCnt (fun i => sampAt (l.take k) i) N := by
  induction k with
  | zero =>
    rw [cntB, nzCnt_zero]
    intro i _
    simp [sampAt]
  | succ k ih =>
    have hk' : k < l.length := by omega
    rw [cntB, ih (by omega), getD_lt _ _ hk', ← cnt_blk (hA.bd k hk').1 (hN _ (List.getElem_mem hk'))]
    have hout : ∀ i : Nat, l[k].1 ≤ i → (i : Int) < endB l[k] → sampAt (l.take k) i = 0 := by
      intro i h1 h2
      refine sampAt_out fun m hm hc => ?_
      obtain ⟨j, hj, e⟩ := List.mem_iff_getElem.1 hm
      have hj' : j < k := by simp at hj; omega
      have e2 : (l.take k)[j]'hj = l[j]'(by omega) := by simp
      rw [e2] at e
      rw [← e] at hc
      have := hA.lt hj' hk'
      omega
    refine (nzCnt_add (fun i hi => ?_) (fun i hi => ?_)).symm
    · rw [sampAt_snoc hA hk']
      unfold blkF
      by_cases hc : l[k].1 ≤ (i : Int) ∧ (i : Int) < endB l[k]
      · rw [if_pos hc, if_pos hc, hout i hc.1 hc.2]
        unfold sB
        simp
      · rw [if_neg hc, if_neg hc]
        simp
    · unfold blkF
      by_cases hc : l[k].1 ≤ (i : Int) ∧ (i : Int) < endB l[k]
      · exact .inl (hout i hc.1 hc.2)
      · exact .inr (if_neg hc)
/-- The samples of a block where the recording has one too. -/
def bothF (l : List (Int × List Int)) (b : Int × List Int) (i : Nat) : Int := if b.2.getD i 0 = 0 then 0 else sampAt l (b.1 + i)
theorem nzCnt_four {f g h k : Nat → Int} {n : Nat} (h1 : ∀ i, i < n → (h i = 0 ↔ f i = 0 ∧ g i = 0)) (h2 : ∀ i, i < n → (k i = 0 ↔ f i = 0 ∨ g i = 0)) : nzCnt h n = nzCnt f n + nzCnt g n - nzCnt k n := by
  induction n with
  | zero => rfl
  | succ n ih =>
    rw [nzCnt, nzCnt, nzCnt, nzCnt, ih (fun i hi => h1 i (by omega)) (fun i hi => h2 i (by omega))]
    have a1 := h1 n (by omega)
    have a2 := h2 n (by omega)
    by_cases e1 : f n = 0 <;> by_cases e2 : g n = 0
    · rw [if_pos e1, if_pos e2, if_pos (a1.2 ⟨e1, e2⟩), if_pos (a2.2 (.inl e1))]; omega
    · rw [if_pos e1, if_neg e2, if_neg (fun e => e2 (a1.1 e).2), if_pos (a2.2 (.inl e1))]; omega
    · rw [if_neg e1, if_pos e2, if_neg (fun e => e1 (a1.1 e).1), if_pos (a2.2 (.inr e2))]; omega
    · rw [if_neg e1, if_neg e2, if_neg (fun e => e1 (a1.1 e).1), if_neg (fun e => (a2.1 e).elim e1 e2)]; omega
theorem count_law {l : List (Int × List Int)} {b : Int × List Int} (h : (putS l b).2 = 0) : cntB (putL l b) (putL l b).length = cntB l l.length + cnt b.2 b.2.length - nzCnt (bothF l b) b.2.length := by
  obtain ⟨h1, h2, h3, h4, h5, h6⟩ := put_inv h
  have hA := rec_apart h1
  have hj := join_ok hA h2 h4
  have hX := put_apart hA h2 hj
  have hend : ∀ {r : List (Int × List Int)}, Apart r → ∀ m ∈ r, endB m ≤ ((2000000 : Nat) : Int) := by
    intro r hr m hm
    have := okB_bd (apart_ok hr hm)
    unfold endB
    omega
  have hb := okB_bd h2
  have hbe : endB b ≤ ((2000000 : Nat) : Int) := by unfold endB; omega
  rw [cntB_F hX (hend hX) _ (Nat.le_refl _), cntB_F hA (hend hA) _ (Nat.le_refl _), List.take_length, List.take_length, ← cnt_blk hb.1 hbe]
  have e : nzCnt (bothF l b) b.2.length = nzCnt (fun i => if blkF b i = 0 then 0 else sampAt l i) 2000000 := by
    refine (Eq.trans (nzCnt_at (a := b.1.toNat) (n := b.2.length) (by omega) (fun i hi => ?_) (fun i hi => ?_)) ?_).symm
    · exact if_pos (if_neg (by omega))
    · exact if_pos (if_neg (by unfold endB; omega))
    · refine nzCnt_congr fun i hi => ?_
      have e1 : blkF b (b.1.toNat + i) = b.2.getD i 0 := by
        unfold blkF
        rw [if_pos (by unfold endB; omega)]
        unfold sB
        congr 1
        omega
      have e2 : ((b.1.toNat + i : Nat) : Int) = b.1 + i := by omega
      simp only [e1, e2]
      exact Iff.rfl
  rw [e]
  refine nzCnt_four (fun i hi => ?_) (fun i hi => ?_)
  · simp only [samp_put hA h2 hj]
    unfold valB blkF
    by_cases hc : b.1 ≤ (i : Int) ∧ (i : Int) < endB b
    · rw [if_pos hc]
      by_cases h0 : sB b i = 0
      · rw [if_neg (fun h => h.2.2 h0), h0]; simp
      · rw [if_pos ⟨hc.1, hc.2, h0⟩]; simp [h0]
    · rw [if_neg hc, if_neg (fun h => hc ⟨h.1, h.2.1⟩)]; simp
  · by_cases h0 : blkF b i = 0
    · simp [h0]
    · simp [h0]
/-- Is a time covered? -/
def covB (l : List (Int × List Int)) (t : Int) : Bool := l.any fun m => decide (m.1 ≤ t) && decide (t < endB m)
theorem covB_iff {l : List (Int × List Int)} {t : Int} : covB l t = true ↔ ∃ m ∈ l, m.1 ≤ t ∧ t < endB m := by
  unfold covB
  rw [List.any_eq_true]
  simp
theorem cov_law {l : List (Int × List Int)} {b : Int × List Int} (h : (putS l b).2 = 0) (t : Int) : covB (putL l b) t = (covB l t || (decide (b.1 ≤ t) && decide (t < endB b))) := by
  obtain ⟨h1, h2, h3, h4, h5, h6⟩ := put_inv h
  have hA := rec_apart h1
  rw [Bool.eq_iff_iff, covB_iff, cov_put hA h2, Bool.or_eq_true, covB_iff]
  simp
theorem samp_own {l : List (Int × List Int)} {b : Int × List Int} (h : (putS l b).2 = 0) {k : Nat} (hk : k < b.2.length) (h0 : b.2.getD k 0 ≠ 0) : sampAt (putL l b) (b.1 + k) = b.2.getD k 0 := by
  obtain ⟨h1, h2, h3, h4, h5, h6⟩ := put_inv h
  have hA := rec_apart h1
  rw [samp_put hA h2 (join_ok hA h2 h4), valB_in ⟨by omega, by unfold endB; omega, by rw [sB_add]; exact h0⟩, sB_add]
theorem samp_kept {l : List (Int × List Int)} {b : Int × List Int} (h : (putS l b).2 = 0) {t : Int} (h0 : sampAt l t ≠ 0) : sampAt (putL l b) t = sampAt l t := by
  obtain ⟨h1, h2, h3, h4, h5, h6⟩ := put_inv h
  have hA := rec_apart h1
  rw [samp_put hA h2 (join_ok hA h2 h4), val_keep h3 h0]
end Go.Proofs.Ytbejkfeloffccaa
