/- WordsBack: the walk. -/
import Derived.Test.YtjcfoofbagpooaaDoorBackZ
import Derived.Test.YtjcfoofbagpooaaDoorNumZ
namespace Go.Mig
open Go Go.Mir Go.Mif Go.RowKit Go.Proofs Go.Lib
noncomputable section
set_option maxRecDepth 100000
theorem map_low (l : List UInt8) : (l.map lowC).map lowC = l.map lowC := by
  rw [List.map_map]
  apply List.map_congr_left
  intro c _
  exact lowC_low c
theorem back_ev (H : Hooks) (h3 : H 3 = none) (h6 : ∃ h6f, H 6 = some h6f ∧ ∀ S, h6f [] S = some (.bool true, S)) (h7 : H 7 = none) (h8 : H 8 = none) (h9 : H 9 = none) (h11 : H 11 = none) (h21 : H 21 = none)
    (h19 : H 19 = some (hDec [none, none, none] gPar)) (h20 : H 20 = some (hDec [none, none] gFmt)) (hH : H 10 = none) (h22 : H 22 = some (hDec [some 1, some 1] gIdxB)) (h23 : H 23 = some (hDec [some 1, some 1] gPre)) (h24 : H 24 = none) (h25 : H 25 = none) (h47 : H 47 = none) (h75 : H 75 = none) (h77 : H 77 = some (hDec [none, none] gIdxS))
    (S : St) (u : Nat) (hu : u < 18446744073709551616) (s : List UInt8) (v : Value) (l : List UInt8) (hv : IsB S v l) (hg : Good S 1070000000) :
    ∃ w S', EvFn Tryd.prog H 3 [.int .u64 (u : Int), .string ⟨⟨s⟩⟩, v] S w S' ∧ w = .bool true := by
  obtain ⟨h6f, h6, h6v⟩ := h6
  have hc6 : ∀ rc S, callG Tryd.prog H rc 6 [] S = some (.bool true, S) := fun rc S => (call_hook Tryd.func6 h6 rc [] S).trans (h6v S)
  have hlen : ∀ S, Mir.abuiltin Tryd.prog S .len #[23] [v] = some (.int .i64 (l.length : Int), S) := fun S => len_isB Tryd.underlying23 hv S
  have hls : ∀ S, Mir.abuiltin Tryd.prog S .len #[9] [.string ⟨⟨s⟩⟩] = some (.int .i64 (s.length : Int), S) := fun S => len_str u9 ⟨⟨s⟩⟩
  have hroom := hg.room
  refine EvFn.ofQ Tryd.func3 h3 rfl rfl rfl ?_
  refine W.region (n := 0) rfl (by simp [Env.ofArgs]; exact ⟨rfl, rfl⟩) ?_
  refine W.assoc ?_
  refine W.seq (W.mono (Q := fun x E' S' => x = .normal ∧ E'.n = 104 ∧ S' = S ∧ E'.f 0 = .int .u64 (u : Int) ∧ E'.f 1 = .string ⟨⟨s⟩⟩ ∧ E'.f 2 = v ∧ E'.f 26 = .bool (decide (300 < s.length) || decide (3000 < l.length))) ?_ ?_)
  · by_cases h1 : 300 < s.length
    · have d1 : ((300 : Int) < (s.length : Int)) = True := by simp; omega
      refine W.reg (n := 0) rfl (by simp [hls, d1]; exact ⟨rfl, rfl⟩) ?_
      exact ⟨rfl, rfl, rfl, by simp, by simp, by simp, by simp [h1]⟩
    · have d1 : ((300 : Int) < (s.length : Int)) = False := by simp; omega
      have d2 : decide ((3000 : Int) < (l.length : Int)) = decide (3000 < l.length) := decide_eq_decide.2 ⟨fun h => by omega, fun h => by omega⟩
      refine W.reg (n := 0) rfl (by simp [hls, d1, hlen]; exact ⟨rfl, rfl⟩) ?_
      exact ⟨rfl, rfl, rfl, by simp, by simp, by simp, by simp only [upd_same, upd_ne, ne_eq, Nat.reduceEqDiff, not_false_eq_true]; simp [h1, d2]; try exact decide_eq_decide.2 ⟨fun h => by omega, fun h => by omega⟩⟩
  rintro x ⟨n, f⟩ S' ⟨rfl, rfl, rfl, f0, f1, f2, f26⟩
  simp only at f0 f1 f2 f26
  refine .inl ⟨rfl, ?_⟩
  cases hbig : (decide (300 < s.length) || decide (3000 < l.length)) with
  | true =>
    rw [hbig] at f26
    refine W.seq_true (by simp [f26]) ?_
    refine W.assoc ?_
    refine W.region (n := 0) rfl (by simp [hc6]; exact ⟨rfl, rfl⟩) ?_
    refine W.seq_ret ⟨.inr rfl, _, by simp [resultsG, resListG, resultG, Tryd.f3, oneOrTuple], rfl⟩
  | false =>
  rw [hbig] at f26
  simp only [Bool.or_eq_false_iff, decide_eq_false_iff_not] at hbig
  refine W.seq_false (by simp [f26]) ?_
  refine W.seq_skip ?_
  -- the number
  obtain ⟨nd, ed⟩ := digits_ev H h8 h20 S' u hu
  have hdl : (decDigits u).length ≤ 1000000 := by
    rw [decDigits_length]
    by_cases h1 : 1 ≤ u
    · have := Lib.numDigits_eq u h1 hu
      split at this <;> omega
    · rw [nDigits_small (by omega)]; omega
  obtain ⟨nn, en⟩ := number_ev H h7 h19 S' (decDigits u) u (dec_ne u) hdl
    (fun h => by
      have h1 : 1 ≤ u := by
        by_cases h1 : 1 ≤ u
        · exact h1
        · rw [decDigits_length, nDigits_small (by omega)] at h; omega
      obtain ⟨c, r, e, hc⟩ := dec_head u h1
      rw [e]; exact hc) (dec_digit u) (parse_ok u (by omega))
  have ed' := call_le (run_le (show nd ≤ nd + nn by omega)) _ _ _ _ ed
  have en' := call_le (run_le (show nn ≤ nd + nn by omega)) _ _ _ _ en
  have hnn : (⟨(decDigits u).toArray⟩ : ByteArray) = ⟨⟨decDigits u⟩⟩ := rfl
  rw [hnn] at ed'
  refine W.region (n := nd + nn) rfl (by simp [f0, ed', en', extract_tuple]; exact ⟨rfl, rfl⟩) ?_
  -- the letters
  obtain ⟨_, S1, ⟨n9, e9⟩, rfl, m1⟩ := low_ev H h9 h21 S' s (by omega) (by omega) hg.fresh
  have r1 := m1.room
  refine W.region (n := n9) rfl (by simp [f1, e9]; exact ⟨rfl, rfl⟩) ?_
  -- the head
  have hv1 : IsB S1 v l := hv.ext hg m1.ext
  obtain ⟨_, S2, ⟨n10, ea⟩, sl, n, c, rfl, hR⟩ := head_ev H hH h22 h23 h24 h25 h47 h75 h77 S1 v l hv1 (by omega) ⟨m1.fresh, by omega⟩
  have r2 := hR.room
  refine W.region (n := n10) rfl (by simp [f2, ea, extract_tuple]; exact ⟨rfl, rfl⟩) ?_
  have hv2 : IsB S2 v l := hv1.ext (k := 1072000000) ⟨m1.fresh, by omega⟩ hR.ext
  refine W.seq (W.mono (Q := fun x E' S3 => x = .normal ∧ E'.n = 104 ∧ E'.f 0 = .int .u64 (u : Int) ∧ E'.f 1 = .string ⟨⟨s⟩⟩ ∧ E'.f 7 = .int .u64 (u : Int) ∧ E'.f 8 = .int .i64 0 ∧ E'.f 9 = .string ⟨⟨s.map lowC⟩⟩ ∧ S3.next ≤ 1071000000 ∧ (∀ b, S3.next ≤ b → S3.get b = none)) ?_ ?_)
  · by_cases hc : c = 0
    · subst hc
      obtain ⟨hn, hL⟩ := hR.good rfl
      obtain ⟨k, hk, hk2, hkl, hk1, hc1, hc2, hat⟩ := head_back l hR.code.symm
      rw [hk] at hn
      subst hn
      have d1 : ((0 : Int) < (k : Int)) = True := by simp; omega
      refine W.region (n := 0) rfl (by simp [d1]; exact ⟨rfl, rfl⟩) ?_
      refine W.cond_true (by simp; omega) ?_
      -- a byte shorter
      obtain ⟨v3, s3, hv3⟩ := take_isB Tryd.underlying23 size5 hv2 (k := k - 1) (by omega)
      have w1 : wrapA .i64 ((k : Int) - 1) = ((k - 1 : Nat) : Int) := by rw [wrap_i64 (by omega) (by omega)]; omega
      obtain ⟨_, S3, ⟨n3, eb⟩, sl3, n3', c3, rfl, hR3⟩ := head_ev H hH h22 h23 h24 h25 h47 h75 h77 S2 v3 _ hv3 (by rw [List.length_take]; omega) ⟨hR.fresh, by omega⟩
      have hc3 : c3 = 4 := by rw [hR3.code]; exact hc1
      subst hc3
      obtain ⟨rfl, rfl⟩ := hR3.bad (by decide)
      have r3 := hR3.room
      have hl0 : ∀ S, Mir.abuiltin Tryd.prog S .len #[30] [.slice none 0 0] = some (.int .i64 ((0 : Nat) : Int), S) := fun S => len_slice u30 S _ _ _
      refine W.assoc ?_
      refine W.region (n := n3) rfl (by simp [f2, w1, s3, eb, extract_tuple]; exact ⟨rfl, rfl⟩) ?_
      refine W.assoc ?_
      refine W.region (n := 0) rfl (by simp [hl0]; exact ⟨rfl, rfl⟩) ?_
      refine W.seq_false (by simp) ?_
      refine W.seq_skip ?_
      -- at its end
      have hv3' : IsB S3 v l := hv2.ext (k := 1072000000) ⟨hR.fresh, by omega⟩ hR3.ext
      obtain ⟨v4, s4, hv4⟩ := take_isB Tryd.underlying23 size5 hv3' (k := k) (by omega)
      obtain ⟨_, S4, ⟨n4, ec⟩, sl4, n4', c4, rfl, hR4⟩ := head_ev H hH h22 h23 h24 h25 h47 h75 h77 S3 v4 _ hv4 (by rw [List.length_take]; omega) ⟨hR3.fresh, by omega⟩
      have r4 := hR4.room
      have hc4 : c4 = 0 := by rw [hR4.code]; exact hc2
      subst hc4
      obtain ⟨hn4, _⟩ := hR4.good rfl
      rw [hat, hk] at hn4
      subst hn4
      refine W.region (n := n4) rfl (by simp [f2, s4, ec, extract_tuple]; exact ⟨rfl, rfl⟩) ?_
      refine W.region (n := 0) rfl (by simp; exact ⟨rfl, rfl⟩) ?_
      refine W.cond_false (by simp) ?_
      refine W.skip ?_
      exact ⟨rfl, rfl, by simp [f0], by simp [f1], by simp, by simp, by simp, by omega, hR4.fresh⟩
    · obtain ⟨rfl, rfl⟩ := hR.bad hc
      refine W.region (n := 0) rfl (by simp [hc]; exact ⟨rfl, rfl⟩) ?_
      refine W.cond_false (by simp [hc]) ?_
      refine W.skip ?_
      exact ⟨rfl, rfl, by simp [f0], by simp [f1], by simp, by simp, by simp, by omega, hR.fresh⟩
  rintro x ⟨n, f⟩ S3 ⟨rfl, rfl, f0, f1, f7, f8, f9, r3, fr3⟩
  simp only at f0 f1 f7 f8 f9
  refine .inl ⟨rfl, ?_⟩
  obtain ⟨_, S4, ⟨na, eal⟩, rfl, m4⟩ := alike_ev H h11 h9 h21 S3 (s.map lowC) s (by rw [List.length_map]; omega) (by omega) (by omega) fr3
  have r4 := m4.room
  obtain ⟨_, S5, ⟨nb5, elo⟩, rfl, m5⟩ := low_ev H h9 h21 S4 (s.map lowC) (by rw [List.length_map]; omega) (by omega) m4.fresh
  rw [map_low] at eal elo
  have eal' := call_le (run_le (show na ≤ na + nb5 by omega)) _ _ _ _ eal
  have elo' := call_le (run_le (show nb5 ≤ na + nb5 by omega)) _ _ _ _ elo
  refine W.region (n := na + nb5) rfl (by simp [f0, f1, f7, f8, f9, eal', elo', hc6]; exact ⟨rfl, rfl⟩) ?_
  exact W.ret ⟨.inr rfl, _, by simp [resultsG, resListG, resultG, Tryd.f3, oneOrTuple], rfl⟩
end
end Go.Mig
