/- A head cut right behind its end is a head still; a byte shorter it is one that may go on. -/
import Derived.Test.YtjcfoofbagpooaaDoorLinesZ
namespace Go.Mig
open Go

theorem nb_take (l : List UInt8) {m i : Nat} (h : i < m) : nb (l.take m) i = nb l i := by
  unfold nb
  rw [List.getD_eq_getElem?_getD, List.getD_eq_getElem?_getD, List.getElem?_take, if_pos h]
theorem right_take (l : List UInt8) {m i : Nat} (h : i < m) (hm : m ≤ l.length) (hr : rightB l i = true) : rightB (l.take m) i = true := by
  have hlen : (l.take m).length = m := by rw [List.length_take]; omega
  unfold rightB at hr ⊢
  rw [nb_take l h, hlen]
  by_cases h13 : nb l i = 13
  · rw [if_pos h13] at hr ⊢
    by_cases h1 : i + 1 = m
    · simp [h1]
    · rw [nb_take l (show i + 1 < m by omega)]
      simp only [Bool.or_eq_true, decide_eq_true_eq] at hr ⊢
      omega
  · rw [if_neg h13] at hr ⊢
    by_cases h10 : nb l i = 10
    · rw [if_pos h10] at hr ⊢
      simp only [Bool.and_eq_true, decide_eq_true_eq] at hr ⊢
      obtain ⟨h0, h9⟩ := hr
      exact ⟨h0, by rw [nb_take l (show i - 1 < m by omega)]; exact h9⟩
    · rw [if_neg h10] at hr ⊢
      exact hr
theorem prefix_take {l s : List UInt8} {m : Nat} (h : Lib.hasPrefix (l.take m) s = true) : Lib.hasPrefix l s = true := by
  obtain ⟨r, hr⟩ := List.isPrefixOf_iff_prefix.1 h
  exact List.isPrefixOf_iff_prefix.2 ⟨r ++ l.drop m, by rw [← List.append_assoc, hr, List.take_append_drop]⟩
theorem prefix_into {l s : List UInt8} {m : Nat} (h : Lib.hasPrefix l s = true) (hm : s.length ≤ m) : Lib.hasPrefix (l.take m) s = true := by
  obtain ⟨r, hr⟩ := List.isPrefixOf_iff_prefix.1 h
  refine List.isPrefixOf_iff_prefix.2 ⟨r.take (m - s.length), ?_⟩
  rw [← hr, List.take_append, List.take_of_length_le hm]
theorem occ_take {l s : List UInt8} {m j : Nat} (h : Lib.occAt (l.take m) s j = true) : Lib.occAt l s j = true := by
  unfold Lib.occAt at h ⊢
  rw [List.drop_take] at h
  exact prefix_take (l := l.drop j) h
theorem occ_into {l s : List UInt8} {m j : Nat} (h : Lib.occAt l s j = true) (hm : j + s.length ≤ m) : Lib.occAt (l.take m) s j = true := by
  unfold Lib.occAt at h ⊢
  rw [List.drop_take]
  exact prefix_into (l := l.drop j) h (by omega)

theorem head_back (l : List UInt8) (h : headC l = 0) : ∃ k : Nat, headAt l + 4 = k ∧ 2 ≤ k ∧ k ≤ l.length ∧ k ≤ 2048 ∧ headC (l.take (k - 1)) = 4 ∧ headC (l.take k) = 0 ∧ headAt (l.take k) = headAt l := by
  obtain ⟨_, k, hk, hk1, hk2, _⟩ := head_lines l h
  unfold headC at h
  split at h
  rotate_left
  · cases h
  split at h
  rotate_left
  · split at h <;> cases h
  rename_i h1 h2
  clear h
  obtain ⟨h2, h3⟩ := Bool.and_eq_true_iff.1 h2
  have h3 := of_decide_eq_true h3
  have hN : headN l = k := by unfold headN; rw [h2, if_pos rfl, hk]; omega
  have hR : ∀ i, i < k → rightB l i = true := fun i hi => List.all_eq_true.1 h1 i (List.mem_range.2 (by omega))
  have hRm : ∀ m, m ≤ k → ((List.range m).all (rightB (l.take m))) = true := fun m hm => by
    rw [List.all_eq_true]
    intro i hi
    have hi := List.mem_range.1 hi
    exact right_take l hi (by omega) (hR i (by omega))
  have hlen : ∀ m, m ≤ k → (l.take m).length = m := fun m hm => by rw [List.length_take]; omega
  -- what is found in the cuts
  have key : 2 ≤ k ∧ headAt (l.take k) = headAt l ∧ Lib.hasPrefix (l.take (k - 1)) crlf = false ∧ Lib.index (l.take (k - 1)) crlf2 = -1 := by
    cases hp : Lib.hasPrefix l crlf with
    | true =>
      have e : headAt l = -2 := by unfold headAt; rw [hp]; rfl
      have hk2' : k = 2 := by omega
      subst hk2'
      refine ⟨Nat.le_refl _, ?_, ?_, ?_⟩
      · rw [e]; unfold headAt; rw [prefix_into (m := 2) hp (Nat.le_refl _)]; rfl
      · cases hq : Lib.hasPrefix (l.take (2 - 1)) crlf with
        | false => rfl
        | true =>
          have := (List.isPrefixOf_iff_prefix.1 hq).length_le
          rw [hlen 1 (by omega)] at this
          exact absurd this (by decide)
      · rcases index_spec (l.take (2 - 1)) crlf2 with ⟨h, _⟩ | ⟨i, _, _, hl, _⟩
        · exact h
        · rw [hlen 1 (by omega)] at hl
          have : i + 4 ≤ 1 := hl
          omega
    | false =>
      have e : headAt l = Lib.index l crlf2 := by unfold headAt; rw [hp]; rfl
      have h0 : 0 ≤ headAt l := by
        by_cases h0 : 0 ≤ headAt l
        · exact h0
        · unfold headIn at h2
          rw [if_neg h0, hp] at h2; cases h2
      have hnp : ∀ m, Lib.hasPrefix (l.take m) crlf = false := fun m => by
        cases hq : Lib.hasPrefix (l.take m) crlf with
        | false => rfl
        | true => rw [prefix_take hq] at hp; cases hp
      rcases index_spec l crlf2 with ⟨h, _⟩ | ⟨i, hi, ho, hl, hn⟩
      · rw [e, h] at h0; omega
      · have hki : k = i + 4 := by omega
        refine ⟨by omega, ?_, hnp _, ?_⟩
        · unfold headAt
          rw [hnp, hp]
          show Lib.index (l.take k) crlf2 = Lib.index l crlf2
          rw [hi]
          refine Lib.index_first (by rw [hlen k (Nat.le_refl _)]; omega) (occ_into ho (by rw [hki]; exact Nat.le_refl _)) (fun j hj => ?_)
          cases hq : Lib.occAt (l.take k) crlf2 j with
          | false => rfl
          | true => rw [← hn j hj, occ_take hq]
        · rcases index_spec (l.take (k - 1)) crlf2 with ⟨h, _⟩ | ⟨j, _, ho', hl', _⟩
          · exact h
          · rw [hlen _ (by omega)] at hl'
            have hl' : j + 4 ≤ k - 1 := hl'
            have := hn j (by omega)
            rw [occ_take ho'] at this; cases this
  obtain ⟨k2, hat, hp1, hi1⟩ := key
  refine ⟨k, hk, k2, hk2, hk1, ?_, ?_, hat⟩
  · have e1 : headAt (l.take (k - 1)) = -1 := by unfold headAt; rw [hp1, hi1]; rfl
    have e2 : headIn (l.take (k - 1)) = false := by unfold headIn; rw [e1, if_neg (by omega), hp1]
    have e3 : headN (l.take (k - 1)) = k - 1 := by unfold headN; rw [e2, hlen _ (by omega)]; simp; omega
    have e4 : headRight (l.take (k - 1)) = true := by unfold headRight; rw [e3]; exact hRm _ (by omega)
    unfold headC
    rw [e4, e2, hlen _ (by omega)]
    simp
    omega
  · have e2 : headIn (l.take k) = true := by
      unfold headIn
      rw [hat]
      by_cases h0 : 0 ≤ headAt l
      · rw [if_pos h0]
      · rw [if_neg h0]
        unfold headIn at h2
        rw [if_neg h0] at h2
        exact prefix_into h2 k2
    have e3 : headN (l.take k) = k := by unfold headN; rw [e2, if_pos rfl, hat, hk, hlen _ (Nat.le_refl _)]; omega
    have e4 : headRight (l.take k) = true := by unfold headRight; rw [e3]; exact hRm _ (Nat.le_refl _)
    unfold headC
    rw [e4, e2, hat]
    simp [h3]
end Go.Mig
