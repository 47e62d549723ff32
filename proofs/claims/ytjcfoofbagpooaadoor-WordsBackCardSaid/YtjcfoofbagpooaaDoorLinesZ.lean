/- The plain law of words.Head: its lines, joined again, are the head. -/
import Derived.Test.YtjcfoofbagpooaaDoorHeadZ
namespace Go.Mig
open Go

theorem index_spec : ∀ (s sub : List UInt8), (Lib.index s sub = -1 ∧ ∀ j, j ≤ s.length → Lib.occAt s sub j = false) ∨ ∃ i : Nat, Lib.index s sub = i ∧ Lib.occAt s sub i = true ∧ i + sub.length ≤ s.length ∧ ∀ j, j < i → Lib.occAt s sub j = false
  | [], sub => by
    unfold Lib.index
    cases sub with
    | nil => exact .inr ⟨0, rfl, rfl, by simp, fun j hj => by omega⟩
    | cons a t => exact .inl ⟨rfl, fun j _ => by simp [Lib.occAt]⟩
  | b :: l, sub => by
    unfold Lib.index
    cases hp : sub.isPrefixOf (b :: l) with
    | true =>
      refine .inr ⟨0, by simp, by simpa [Lib.occAt] using hp, ?_, fun j hj => by omega⟩
      have := (List.isPrefixOf_iff_prefix.1 hp).length_le
      omega
    | false =>
      rcases index_spec l sub with ⟨h, hn⟩ | ⟨i, h, ho, hl, hn⟩
      · refine .inl ⟨by rw [h]; rfl, fun j hj => ?_⟩
        cases j with
        | zero => simpa [Lib.occAt] using hp
        | succ j =>
          have := hn j (by simpa using hj)
          simpa [Lib.occAt] using this
      · refine .inr ⟨i + 1, ?_, by simpa [Lib.occAt] using ho, by simp; omega, fun j hj => ?_⟩
        · rw [h]; simp
        · cases j with
          | zero => simpa [Lib.occAt] using hp
          | succ j =>
            have := hn j (by omega)
            simpa [Lib.occAt] using this

/-- An instance: what stands ahead of it, and behind. -/
theorem occ_split {s sub : List UInt8} {i : Nat} (h : Lib.occAt s sub i = true) : s = s.take i ++ (sub ++ s.drop (i + sub.length)) := by
  unfold Lib.occAt at h
  obtain ⟨r, hr⟩ := List.isPrefixOf_iff_prefix.1 h
  have : s.drop (i + sub.length) = r := by rw [← List.drop_drop, ← hr, List.drop_left]
  rw [this, hr, List.take_append_drop]
theorem occ_at {a sub b : List UInt8} : Lib.occAt (a ++ (sub ++ b)) sub a.length = true := by
  unfold Lib.occAt
  rw [List.drop_left]
  exact List.isPrefixOf_iff_prefix.2 ⟨b, rfl⟩
theorem occ_shift {a s sub : List UInt8} {j : Nat} : Lib.occAt (a ++ s) sub (a.length + j) = Lib.occAt s sub j := by
  unfold Lib.occAt
  rw [List.drop_append, show a.length + j - a.length = j by omega, List.drop_eq_nil_of_le (by omega), List.nil_append]

def joinAll (ps : List (List UInt8)) : List UInt8 := ps.flatMap (· ++ crlf)

theorem pieces_join : ∀ (n : Nat) (T : List UInt8), T.length ≤ n →
    (∀ j, j < T.length → Lib.occAt (T ++ crlf2) crlf2 j = false) → Lib.hasPrefix (T ++ crlf2) crlf = false →
    (∀ p, p ∈ pieces ⟨⟨crlf⟩⟩ n T → p ≠ []) ∧ joinAll (pieces ⟨⟨crlf⟩⟩ n T) = T ++ crlf
  | 0, T, hn, h1, h2 => by
    obtain rfl := List.eq_nil_of_length_eq_zero (Nat.le_zero.1 hn)
    simp [Lib.hasPrefix, crlf, crlf2] at h2
  | n + 1, T, hn, h1, h2 => by
    have hT : T ≠ [] := by rintro rfl; simp [Lib.hasPrefix, crlf, crlf2] at h2
    unfold pieces
    rcases index_spec T crlf with ⟨h, _⟩ | ⟨i, h, ho, hl, _⟩
    · rw [show (⟨⟨crlf⟩⟩ : ByteArray).data.toList = crlf from rfl, h, if_pos (by decide)]
      refine ⟨fun p hp => ?_, ?_⟩
      · simp at hp; rw [hp]; exact hT
      · simp [joinAll]
    · rw [show (⟨⟨crlf⟩⟩ : ByteArray).data.toList = crlf from rfl, h, if_neg (by omega)]
      rw [show ((i : Int)).toNat = i from rfl]
      have hs := occ_split ho
      have hl2 : i + 2 ≤ T.length := hl
      have htl : (T.take i).length = i := by rw [List.length_take]; omega
      rw [show crlf.length = 2 from rfl] at hs
      have hi : i ≠ 0 := by
        rintro rfl
        rw [List.take_zero, List.nil_append] at hs
        rw [hs, Lib.hasPrefix, List.append_assoc] at h2
        rw [List.isPrefixOf_iff_prefix.2 ⟨_, rfl⟩] at h2; cases h2
      have hT2 : T ++ crlf2 = (T.take i ++ crlf) ++ (T.drop (i + 2) ++ crlf2) := by
        conv => lhs; rw [hs]
        simp
      have hal : (T.take i ++ crlf).length = i + 2 := by rw [List.length_append, htl]; rfl
      have := pieces_join n (T.drop (i + 2)) (by rw [List.length_drop]; omega) (fun j hj => by
          rw [List.length_drop] at hj
          have := h1 (i + 2 + j) (by omega)
          rw [hT2] at this
          have e := occ_shift (a := T.take i ++ crlf) (s := T.drop (i + 2) ++ crlf2) (sub := crlf2) (j := j)
          rw [hal] at e
          rw [e] at this
          exact this) (by
          cases hp : Lib.hasPrefix (T.drop (i + 2) ++ crlf2) crlf with
          | false => rfl
          | true =>
            obtain ⟨r, hr⟩ := List.isPrefixOf_iff_prefix.1 hp
            have := h1 i (by omega)
            rw [hT2, ← hr, show (T.take i ++ crlf) ++ (crlf ++ r) = T.take i ++ (crlf2 ++ r) by simp [crlf, crlf2]] at this
            have h9 := occ_at (a := T.take i) (sub := crlf2) (b := r)
            rw [htl, this] at h9; cases h9)
      refine ⟨fun p hp => ?_, ?_⟩
      · rcases List.mem_cons.1 hp with rfl | hp
        · intro e; rw [e] at htl; exact hi htl.symm
        · exact this.1 p hp
      · show (T.take i ++ crlf) ++ joinAll (pieces ⟨⟨crlf⟩⟩ n (T.drop (i + 2))) = _
        rw [this.2]
        conv => rhs; rw [hs]
        simp

/-- A head's lines are not empty, and joined again they are the head. -/
theorem head_lines (l : List UInt8) (h : headC l = 0) : (∀ p, p ∈ headL l → p ≠ []) ∧ ∃ k : Nat, headAt l + 4 = k ∧ k ≤ 2048 ∧ k ≤ l.length ∧ joinAll (headL l) ++ crlf = l.take k := by
  unfold headC at h
  split at h
  rotate_left
  · cases h
  split at h
  rotate_left
  · split at h <;> cases h
  rename_i h1 h2
  clear h
  obtain ⟨h2, h3⟩ := Bool.and_eq_true_iff.1 h2
  have h3 := of_decide_eq_true h3
  unfold headIn at h2
  unfold headL
  refine ⟨fun p hp => by have := (List.mem_filter.1 hp).2; simpa using this, ?_⟩
  unfold headAt at *
  cases hp : Lib.hasPrefix l crlf with
  | true =>
    rw [hp] at h3
    rw [if_pos rfl]
    obtain ⟨r, hr⟩ := List.isPrefixOf_iff_prefix.1 hp
    refine ⟨2, rfl, by omega, by rw [← hr]; simp [crlf], ?_⟩
    rw [← hr]; rfl
  | false =>
    rw [hp] at h2 h3
    simp only [Bool.false_eq_true, if_false] at h2 h3 ⊢
    rcases index_spec l crlf2 with ⟨h, _⟩ | ⟨i, h, ho, hl, hn⟩
    · rw [h] at h2; simp at h2
    · rw [h]
      have hl4 : i + 4 ≤ l.length := hl
      refine ⟨i + 4, by omega, by omega, hl, ?_⟩
      rw [show (max (i : Int) 0).toNat = i by omega]
      have htl : (l.take i).length = i := by rw [List.length_take]; omega
      have hs := occ_split ho
      rw [show crlf2.length = 4 from rfl] at hs
      have ht : l.take (i + 4) = l.take i ++ crlf2 := by
        conv => lhs; rw [hs]
        rw [← List.append_assoc, List.take_append_of_le_length (by rw [List.length_append, htl]; exact Nat.le_refl _)]
        rw [List.take_of_length_le (by rw [List.length_append, htl]; exact Nat.le_refl _)]
      have hpj := pieces_join (l.take i).length (l.take i) (Nat.le_refl _) (fun j hj => by
          rw [htl] at hj
          have := hn j hj
          cases ho2 : Lib.occAt (l.take i ++ crlf2) crlf2 j with
          | false => rfl
          | true =>
            have h7 := occ_split ho2
            have : Lib.occAt l crlf2 j = true := by
              unfold Lib.occAt at ho2 ⊢
              rw [← ht] at ho2
              obtain ⟨r, hr⟩ := List.isPrefixOf_iff_prefix.1 ho2
              refine List.isPrefixOf_iff_prefix.2 ⟨r ++ l.drop (i + 4), ?_⟩
              rw [← List.append_assoc, hr, ← List.drop_append_of_le_length (by rw [List.length_take]; omega), List.take_append_drop]
            rw [hn j hj] at this; cases this) (by
          cases hq : Lib.hasPrefix (l.take i ++ crlf2) crlf with
          | false => rfl
          | true =>
            rw [← ht] at hq
            obtain ⟨r, hr⟩ := List.isPrefixOf_iff_prefix.1 hq
            have : Lib.hasPrefix l crlf = true := List.isPrefixOf_iff_prefix.2 ⟨r ++ l.drop (i + 4), by rw [← List.append_assoc, hr, List.take_append_drop]⟩
            rw [hp] at this; cases this)
      have hfil : (pieces ⟨⟨crlf⟩⟩ (l.take i).length (l.take i)).filter (· ≠ []) = pieces ⟨⟨crlf⟩⟩ (l.take i).length (l.take i) := by
        rw [List.filter_eq_self]
        intro p hp
        simpa using hpj.1 p hp
      show joinAll (List.filter _ (pieces ⟨⟨crlf⟩⟩ (l.take i).length (l.take i))) ++ crlf = _
      rw [hfil, hpj.2, ht]
      simp [crlf, crlf2]
end Go.Mig
