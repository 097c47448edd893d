/-
  Plain laws on merging accumulators: order, grouping, sums of what was added.
-/
import Derived.Test.YtjhigfhgchpjcaaAccA
import Derived.Test.YtjhigfhgchpjcaaLagChk
namespace Go.Proofs.Ytjhigfhgchpjcaa
open Runs Lagc
set_option linter.unusedVariables false
set_option linter.unusedSimpArgs false

theorem addC_comm (a b : Int × Int) : addC a b = addC b a := by unfold addC; rw [Int.add_comm]
theorem addL_comm {a b : List (Int × Int)} (h : a.length = b.length) : addL a b = addL b a := by
  unfold addL; rw [h]; exact fullL_congr (fun i _ => addC_comm _ _)
theorem rngB_comm {a b : List (Int × Int)} (h : a.length = b.length) : rngB a b = rngB b a := by unfold rngB; rw [addL_comm h]
theorem mrg_comm {a b : Acc} (hs : a.s.length = b.s.length) (hn : a.n.length = b.n.length) : mrg a b = mrg b a := by
  unfold mrg
  rw [uni_comm a.g b.g, rngB_comm hs, rngB_comm hn, addL_comm hs, addL_comm hn]
theorem mergeS_fine {a b : Acc} (ha : Fine a) (hb : Fine b) (h : a.s.length = b.s.length) : mergeS a b = mrg a b := by
  unfold mergeS
  rw [if_neg (by rw [acc_fine.2 ha]; simp), if_neg (by rw [acc_fine.2 hb]; simp), if_neg (by simpa using h)]
theorem mergeS_len {a b : Acc} (ha : Fine a) (hb : Fine b) (h : a.s.length ≠ b.s.length) : mergeS a b = (.none, 2) := by
  unfold mergeS
  rw [if_neg (by rw [acc_fine.2 ha]; simp), if_neg (by rw [acc_fine.2 hb]; simp), if_pos h]
theorem mergeS_comm {a b : Acc} (ha : Fine a) (hb : Fine b) : mergeS a b = mergeS b a := by
  by_cases h : a.s.length = b.s.length
  · rw [mergeS_fine ha hb h, mergeS_fine hb ha h.symm]
    exact mrg_comm h (by rw [ha.ln, hb.ln, h])
  · rw [mergeS_len ha hb h, mergeS_len hb ha (fun e => h e.symm)]
theorem mergeS_ok {a b : Acc} (ha : Fine a) (hb : Fine b) (h : (mergeS a b).2 = 0) : a.s.length = b.s.length ∧ mergeS a b = mrg a b := by
  by_cases h2 : a.s.length = b.s.length
  · exact ⟨h2, mergeS_fine ha hb h2⟩
  · rw [mergeS_len ha hb h2] at h
    cases h
theorem fullL_mem {α : Type} {f : Nat → α} {n : Nat} {x : α} (h : x ∈ fullL f n) : ∃ k, k < n ∧ f k = x := by
  simpa [fullL] using h
theorem getD_mem {α : Type} {l : List α} {d : α} {k : Nat} (h : k < l.length) : l.getD k d ∈ l := by rw [getD_lt _ _ h]; exact List.getElem_mem _
theorem addL_len (a b : List (Int × Int)) : (addL a b).length = a.length := fullL_len _ _
theorem addL_getD {a b : List (Int × Int)} {k : Nat} (hk : k < a.length) : (addL a b).getD k (0, 0) = addC (a.getD k (0, 0)) (b.getD k (0, 0)) := fullL_getD _ _ _ _ hk
theorem val_addL {a b : List (Int × Int)} {k : Nat} (hk : k < a.length) : val ((addL a b).getD k (0, 0)) = val (a.getD k (0, 0)) + val (b.getD k (0, 0)) := by
  rw [addL_getD hk, addC, val_cnt]
theorem addL_assoc {a b c : List (Int × Int)} (h : b.length = a.length) : addL (addL a b) c = addL a (addL b c) := by
  show fullL (addF (addL a b) c) (addL a b).length = fullL (addF a (addL b c)) a.length
  rw [addL_len]
  refine fullL_congr (fun k hk => ?_)
  unfold addF addC
  rw [val_addL hk, val_addL (by rw [h]; exact hk), Int.add_assoc]
theorem mrg_ok {a b : Acc} (h : (mrg a b).2 = 0) : (uni a.g b.g).2 = true ∧ rngB a.s b.s = true ∧ rngB a.n b.n = true ∧ (uni a.g b.g).1.length ≤ 64 ∧ mrg a b = (⟨addL a.s b.s, addL a.n b.n, (uni a.g b.g).1⟩, 0) := by
  unfold mrg at h ⊢
  by_cases h1 : (uni a.g b.g).2 = false
  · rw [if_pos h1] at h; cases h
  rw [if_neg h1] at h ⊢
  by_cases h2 : rngB a.s b.s = false ∨ rngB a.n b.n = false
  · rw [if_pos h2] at h; cases h
  rw [if_neg h2] at h ⊢
  by_cases h3 : 64 < (uni a.g b.g).1.length
  · rw [if_pos h3] at h; cases h
  rw [if_neg h3] at h ⊢
  refine ⟨by simpa using h1, ?_, ?_, by omega, rfl⟩
  · cases e : rngB a.s b.s
    · exact absurd (.inl e) h2
    · rfl
  · cases e : rngB a.n b.n
    · exact absurd (.inr e) h2
    · rfl
theorem mrg_twice {a b : Acc} : (mrg a b).2 = 14 ↔ (uni a.g b.g).2 = false := by
  unfold mrg
  by_cases h1 : (uni a.g b.g).2 = false
  · rw [if_pos h1]; simp [h1]
  · rw [if_neg h1]
    refine ⟨fun h => ?_, fun h => absurd h h1⟩
    split at h
    · cases h
    · split at h <;> cases h
theorem mrg_vals (a b : Acc) : (mrg a b).2 = 0 ∨ (mrg a b).2 = 4 ∨ (mrg a b).2 = 14 ∨ (mrg a b).2 = 16 := by
  unfold mrg
  repeat' split
  all_goals simp
theorem mrg_none {a b : Acc} (h : (mrg a b).2 ≠ 0) : (mrg a b).1 = .none := by
  unfold mrg at h ⊢
  repeat' split
  all_goals first | rfl | simp_all
theorem cnt_fit (v : Int) : 0 ≤ (cnt v).2 ∧ (cnt v).2 < 1000000000 := by unfold cnt; simp only []; omega
theorem mrg_fine {a b : Acc} (ha : Fine a) (hb : Fine b) (hl : a.s.length = b.s.length) (h : (mrg a b).2 = 0) : Fine (mrg a b).1 := by
  obtain ⟨h1, h2, h3, h4, h5⟩ := mrg_ok h
  rw [h5]
  have hg := uni_good h1
  have en : a.n.length = b.n.length := by rw [ha.ln, hb.ln, hl]
  refine ⟨by rw [addL_len]; exact ha.ls, by rw [addL_len, addL_len]; exact ha.ln, h4, by rw [addL_len]; exact ha.odd, hg.rn, ?_, ?_⟩
  · intro x hx
    obtain ⟨k, hk, rfl⟩ := fullL_mem hx
    have e1 := rngB_at h2 hk
    have e2 := cnt_fit (val (a.s.getD k (0, 0)) + val (b.s.getD k (0, 0)))
    unfold inR at e1
    rw [decide_eq_true_eq] at e1
    exact ⟨e2.1, e2.2, e1.1, e1.2⟩
  · intro x hx
    obtain ⟨k, hk, rfl⟩ := fullL_mem hx
    have e1 := rngB_at h3 hk
    have e2 := cnt_fit (val (a.n.getD k (0, 0)) + val (b.n.getD k (0, 0)))
    unfold inR at e1
    rw [decide_eq_true_eq] at e1
    refine ⟨e2.1, e2.2, ?_, e1.2⟩
    have f1 := ha.n _ (getD_mem (d := (0, 0)) hk)
    have f2 := hb.n _ (getD_mem (d := (0, 0)) (show k < b.n.length by omega))
    show 0 ≤ (val (a.n.getD k (0, 0)) + val (b.n.getD k (0, 0))) / 1000000000
    unfold val
    omega
theorem merge_fine {a b : Acc} (ha : Fine a) (hb : Fine b) (h : (mergeS a b).2 = 0) : Fine (mergeS a b).1 ∧ (mergeS a b).1.s.length = a.s.length := by
  obtain ⟨h1, h2⟩ := mergeS_ok ha hb h
  rw [h2] at h ⊢
  refine ⟨mrg_fine ha hb h1 h, ?_⟩
  rw [(mrg_ok h).2.2.2.2, addL_len]
theorem twice_iff {a b : Acc} (ha : Fine a) (hb : Fine b) (h : a.s.length = b.s.length) : (mergeS a b).2 = 14 ↔ ∃ t, mem a.g t ∧ mem b.g t := by
  rw [mergeS_fine ha hb h, mrg_twice]
  refine ⟨uni_false ha.rn hb.rn, fun ⟨t, h1, h2⟩ => ?_⟩
  rw [uni_no h1 h2]
theorem good_assoc {a b c x z u v : List G} (h1 : Runs.Good a b x) (h2 : Runs.Good b c z) (h3 : Runs.Good x c u) (h4 : Runs.Good a z v) : u = v := by
  refine uniq h3.rn h4.rn (fun t => ?_)
  rw [h3.all, h1.all, h4.all, h2.all, or_assoc]
theorem order_law {a b c : Acc} (ha : Fine a) (hb : Fine b) (hc : Fine c) (h1 : (mergeS a b).2 = 0) (h2 : (mergeS b c).2 = 0) :
    ((mergeS (mergeS a b).1 c).2 = 14 ↔ (mergeS a (mergeS b c).1).2 = 14) ∧ ((mergeS (mergeS a b).1 c).2 = 0 → (mergeS a (mergeS b c).1).2 = 0 → (mergeS (mergeS a b).1 c).1 = (mergeS a (mergeS b c).1).1 ∧ Fine (mergeS (mergeS a b).1 c).1) := by
  obtain ⟨l1, e1⟩ := mergeS_ok ha hb h1
  obtain ⟨l2, e2⟩ := mergeS_ok hb hc h2
  obtain ⟨f1, m1⟩ := merge_fine ha hb h1
  obtain ⟨f2, m2⟩ := merge_fine hb hc h2
  have h1' := h1
  have h2' := h2
  rw [e1] at h1'
  rw [e2] at h2'
  obtain ⟨u1, _, _, _, v1⟩ := mrg_ok h1'
  obtain ⟨u2, _, _, _, v2⟩ := mrg_ok h2'
  have g1 := uni_good u1
  have g2 := uni_good u2
  have x1 : (mergeS a b).1 = ⟨addL a.s b.s, addL a.n b.n, (uni a.g b.g).1⟩ := by rw [e1, v1]
  have x2 : (mergeS b c).1 = ⟨addL b.s c.s, addL b.n c.n, (uni b.g c.g).1⟩ := by rw [e2, v2]
  refine ⟨?_, fun h3 h4 => ?_⟩
  · rw [twice_iff f1 hc (by rw [m1, l1, l2]), twice_iff ha f2 (by rw [m2, l1])]
    rw [x1, x2]
    simp only []
    constructor
    · rintro ⟨t, h3, h4⟩
      rcases (g1.all t).1 h3 with h5 | h5
      · exact ⟨t, h5, (g2.all t).2 (.inr h4)⟩
      · exact absurd ⟨h5, h4⟩ (g2.apart t)
    · rintro ⟨t, h3, h4⟩
      rcases (g2.all t).1 h4 with h5 | h5
      · exact absurd ⟨h3, h5⟩ (g1.apart t)
      · exact ⟨t, (g1.all t).2 (.inl h3), h5⟩
  · refine ⟨?_, (merge_fine f1 hc h3).1⟩
    obtain ⟨l3, e3⟩ := mergeS_ok f1 hc h3
    obtain ⟨l4, e4⟩ := mergeS_ok ha f2 h4
    rw [e3] at h3 ⊢
    rw [e4] at h4 ⊢
    obtain ⟨u3, _, _, _, v3⟩ := mrg_ok h3
    obtain ⟨u4, _, _, _, v4⟩ := mrg_ok h4
    rw [v3, v4]
    rw [x1] at u3 ⊢
    rw [x2] at u4 ⊢
    simp only [] at u3 u4 ⊢
    rw [addL_assoc l1.symm, addL_assoc (by rw [ha.ln, hb.ln, l1]), good_assoc g1 g2 (uni_good u3) (uni_good u4)]

/-! ### adding -/
noncomputable def addAcc (a : Acc) (l : List (Int × Int)) (at_ many : Int) : Acc × Int :=
  if accErr a ≠ 0 then (.none, accErr a) else if lagErr l ≠ 0 then (.none, lagErr l) else if addArg a l at_ many = true then (.none, 2) else mrg a (lagAcc l at_ many)
theorem lagErr_zero {l : List (Int × Int)} (h : lagErr l = 0) : l.length ≤ 511 ∧ l.length % 2 = 1 ∧ ∀ x ∈ l, okLag x = true := by
  unfold lagErr at h
  by_cases h1 : 511 < l.length
  · rw [if_pos h1] at h; cases h
  rw [if_neg h1] at h
  by_cases h2 : l.length % 2 = 0
  · rw [if_pos h2] at h; cases h
  rw [if_neg h2] at h
  by_cases h3 : l.all okLag = true
  · exact ⟨by omega, by omega, by simpa using h3⟩
  · rw [if_neg h3] at h; cases h
theorem okLag_bd {x : Int × Int} (h : okLag x = true) : 0 ≤ x.2 ∧ x.2 ≤ 256 ∧ -2304 ≤ x.1 ∧ x.1 ≤ 2304 := by
  unfold okLag at h
  rw [decide_eq_true_eq] at h
  omega
theorem addArg_no {a : Acc} {l : List (Int × Int)} {at_ many : Int} (h : addArg a l at_ many = false) : l.length = a.s.length ∧ 1 ≤ many ∧ many ≤ 256 ∧ 0 ≤ at_ ∧ at_ + many ≤ 1000000000 := by
  unfold addArg at h
  rw [decide_eq_false_iff_not] at h
  omega
theorem lagAcc_fine {l : List (Int × Int)} {at_ many : Int} (hl : lagErr l = 0) (h1 : 1 ≤ many) (h2 : 0 ≤ at_) (h3 : at_ + many ≤ 1000000000) : Fine (lagAcc l at_ many) := by
  obtain ⟨e1, e2, e3⟩ := lagErr_zero hl
  have hs : (lagAcc l at_ many).s.length = l.length := fullL_len _ _
  have hn : (lagAcc l at_ many).n.length = l.length := fullL_len _ _
  refine ⟨by omega, by omega, by simp [lagAcc], by omega, Rn_one ⟨h2, h1, h3⟩, ?_, ?_⟩
  · intro x hx
    obtain ⟨k, hk, rfl⟩ := fullL_mem hx
    have := okLag_bd (e3 _ (getD_mem (d := (0, 0)) hk))
    unfold cnt
    simp only []
    omega
  · intro x hx
    obtain ⟨k, hk, rfl⟩ := fullL_mem hx
    have := okLag_bd (e3 _ (getD_mem (d := (0, 0)) hk))
    unfold cnt
    simp only []
    omega
theorem addAcc_fine {a : Acc} {l : List (Int × Int)} {at_ many : Int} (ha : Fine a) (hl : lagErr l = 0) (h : addArg a l at_ many = false) : addAcc a l at_ many = mergeS a (lagAcc l at_ many) ∧ Fine (lagAcc l at_ many) := by
  obtain ⟨h1, h2, h3, h4, h5⟩ := addArg_no h
  have hf := lagAcc_fine hl h2 h4 h5
  refine ⟨?_, hf⟩
  unfold addAcc
  rw [if_neg (by rw [acc_fine.2 ha]; simp), if_neg (by rw [hl]; simp), h, if_neg (by simp), mergeS_fine ha hf]
  show a.s.length = (fullL _ _).length
  rw [fullL_len, h1]
theorem addAcc_ok {a : Acc} {l : List (Int × Int)} {at_ many : Int} (ha : Fine a) (hl : lagErr l = 0) (h : (addAcc a l at_ many).2 = 0) : addArg a l at_ many = false := by
  cases e : addArg a l at_ many
  · rfl
  · exfalso
    unfold addAcc at h
    rw [if_neg (by rw [acc_fine.2 ha]; simp), if_neg (by rw [hl]; simp), if_pos e] at h
    cases h
theorem addAcc_none {a : Acc} {l : List (Int × Int)} {at_ many : Int} (h : (addAcc a l at_ many).2 ≠ 0) : (addAcc a l at_ many).1 = .none := by
  unfold addAcc at h ⊢
  split
  · rfl
  split
  · rfl
  split
  · rfl
  rename_i h1 h2 h3
  rw [if_neg h1, if_neg h2, if_neg h3] at h
  exact mrg_none h
structure SumsLaw (a x : Acc) (l : List (Int × Int)) (at_ many : Int) : Prop where
  fine : Fine x
  len : x.s.length = l.length
  lena : a.s.length = l.length
  tot : tot x.g = tot a.g + many
  m1 : mem x.g at_
  m2 : mem x.g (at_ + many - 1)
  vs : ∀ k, k < l.length → val (x.s.getD k (0, 0)) = val (a.s.getD k (0, 0)) + (l.getD k (0, 0)).1
  vn : ∀ k, k < l.length → val (x.n.getD k (0, 0)) = val (a.n.getD k (0, 0)) + (l.getD k (0, 0)).2
theorem sums_law {a : Acc} {l : List (Int × Int)} {at_ many : Int} (ha : Fine a) (hl : lagErr l = 0) (h : (addAcc a l at_ many).2 = 0) : SumsLaw a (addAcc a l at_ many).1 l at_ many := by
  have hA := addAcc_ok ha hl h
  obtain ⟨e1, hf⟩ := addAcc_fine ha hl hA
  obtain ⟨h1, h2, h3, h4, h5⟩ := addArg_no hA
  rw [e1] at h ⊢
  obtain ⟨f1, m1⟩ := merge_fine ha hf h
  obtain ⟨l1, e2⟩ := mergeS_ok ha hf h
  have h' := h
  rw [e2] at h'
  obtain ⟨u1, _, _, _, v1⟩ := mrg_ok h'
  have g1 := uni_good u1
  have x1 : (mergeS a (lagAcc l at_ many)).1 = ⟨addL a.s (lagAcc l at_ many).s, addL a.n (lagAcc l at_ many).n, (uni a.g (lagAcc l at_ many).g).1⟩ := by rw [e2, v1]
  refine ⟨f1, by rw [m1, h1], h1.symm, ?_, ?_, ?_, ?_, ?_⟩
  · rw [x1]
    simp only []
    rw [g1.tot]
    show tot a.g + tot [(at_, many)] = _
    rw [tot_one]
  · rw [x1]
    exact (g1.all _).2 (.inr ((mem_one _ _).2 (by unfold inG; simp only []; omega)))
  · rw [x1]
    exact (g1.all _).2 (.inr ((mem_one _ _).2 (by unfold inG; simp only []; omega)))
  · intro k hk
    rw [x1]
    simp only []
    rw [val_addL (by omega)]
    show _ + val ((fullL _ _).getD k (0, 0)) = _
    rw [fullL_getD _ _ _ _ hk, val_cnt]
  · intro k hk
    rw [x1]
    simp only []
    rw [val_addL (by rw [ha.ln]; omega)]
    show _ + val ((fullL _ _).getD k (0, 0)) = _
    rw [fullL_getD _ _ _ _ hk, val_cnt]
theorem merge_swap {a b L : Acc} (ha : Fine a) (hb : Fine b) (hL : Fine L) (h1 : (mergeS a L).2 = 0) (h2 : (mergeS a b).2 = 0) (h3 : (mergeS (mergeS a L).1 b).2 = 0) :
    ((mergeS (mergeS a b).1 L).2 = 0 ∧ (mergeS (mergeS a L).1 b).1 = (mergeS (mergeS a b).1 L).1) ∨ (mergeS (mergeS a b).1 L).2 = 4 ∨ (mergeS (mergeS a b).1 L).2 = 16 := by
  obtain ⟨l1, e1⟩ := mergeS_ok ha hL h1
  obtain ⟨l2, e2⟩ := mergeS_ok ha hb h2
  obtain ⟨f1, m1⟩ := merge_fine ha hL h1
  obtain ⟨f2, m2⟩ := merge_fine ha hb h2
  have e4 := mergeS_fine f2 hL (by rw [m2, l1])
  have hL14 : (mergeS (mergeS a b).1 L).2 ≠ 14 := by
    intro h14
    obtain ⟨t, h5, h6⟩ := (twice_iff f2 hL (by rw [m2, l1])).1 h14
    have h1' := h1; have h2' := h2
    rw [e1] at h1'
    rw [e2] at h2'
    obtain ⟨u1, _, _, _, v1⟩ := mrg_ok h1'
    obtain ⟨u2, _, _, _, v2⟩ := mrg_ok h2'
    have g1 := uni_good u1
    have g2 := uni_good u2
    rw [e2, v2] at h5
    rcases (g2.all t).1 h5 with h7 | h7
    · exact g1.apart t ⟨h7, h6⟩
    · have h8 : (mergeS (mergeS a L).1 b).2 = 14 := (twice_iff f1 hb (by rw [m1, l2])).2 ⟨t, by rw [e1, v1]; exact (g1.all t).2 (.inr h6), h7⟩
      rw [h8] at h3
      cases h3
  rw [e4] at hL14 ⊢
  rcases mrg_vals (mergeS a b).1 L with h5 | h5 | h5 | h5
  · refine .inl ⟨h5, ?_⟩
    rw [← e4] at h5 ⊢
    -- (a + L) + b = (L + a) + b = L + (a + b) = (a + b) + L
    have hc1 : mergeS a L = mergeS L a := mergeS_comm ha hL
    have hc2 := mergeS_comm f2 hL
    rw [hc1] at h1 h3 ⊢
    have h6 := h5
    rw [hc2] at h5 ⊢
    exact ((order_law hL ha hb h1 h2).2 h3 h5).1
  · exact .inr (.inl h5)
  · exact absurd h5 hL14
  · exact .inr (.inr h5)
theorem adds_swap {a b : Acc} {l : List (Int × Int)} {at_ many : Int} (ha : Fine a) (hb : Fine b) (hl : lagErr l = 0) (h1 : (addAcc a l at_ many).2 = 0) (h2 : (mergeS a b).2 = 0) (h3 : (mergeS (addAcc a l at_ many).1 b).2 = 0) :
    ((addAcc (mergeS a b).1 l at_ many).2 = 0 ∧ (mergeS (addAcc a l at_ many).1 b).1 = (addAcc (mergeS a b).1 l at_ many).1) ∨ (addAcc (mergeS a b).1 l at_ many).2 = 4 ∨ (addAcc (mergeS a b).1 l at_ many).2 = 16 := by
  have hA := addAcc_ok ha hl h1
  obtain ⟨e1, hf⟩ := addAcc_fine ha hl hA
  obtain ⟨f2, m2⟩ := merge_fine ha hb h2
  have hA2 : addArg (mergeS a b).1 l at_ many = false := by unfold addArg at hA ⊢; rw [m2]; exact hA
  obtain ⟨e2, _⟩ := addAcc_fine f2 hl hA2
  rw [e1] at h1 h3 ⊢
  rw [e2]
  exact merge_swap ha hb hf h1 h2 h3
theorem self_twice {a : Acc} (ha : Fine a) : (mergeS a a).2 = 14 ↔ a.g ≠ [] := by
  rw [twice_iff ha ha rfl]
  constructor
  · rintro ⟨t, h, _⟩ e
    rw [e] at h
    exact mem_nil t h
  · intro h
    cases hg : a.g with
    | nil => exact absurd hg h
    | cons x r =>
      have := ha.rn
      rw [hg] at this
      exact ⟨x.1, ⟨x, by simp, ok_in this.head⟩, ⟨x, by simp, ok_in this.head⟩⟩
end Go.Proofs.Ytjhigfhgchpjcaa
