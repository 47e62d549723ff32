/- WordsLines: the walk. -/
import Derived.Test.YtjcfoofbagpooaaDoorLinesZ
namespace Go.Mig
open Go Go.Mir Go.Mif Go.RowKit Go.Proofs
noncomputable section
theorem joinAll_append (a b : List (List UInt8)) : joinAll (a ++ b) = joinAll a ++ joinAll b := by unfold joinAll; rw [List.flatMap_append]

/-- The texts at a slice's places. -/
theorem lines_at {S : St} {G : Nat} {sl : Value} {ls : List ByteArray} (h : LinesAt S G sl ls) {i : Nat} {x : ByteArray} (hi : ls[i]? = some x) : ∃ b, sl = .slice (some ⟨b, 0, none⟩) ls.length ls.length ∧ cellAt S ⟨b, 0 + i, none⟩ = some (.string x) := by
  rcases h with ⟨rfl, _⟩ | ⟨_, g, h1, _, _, h2⟩
  · simp at hi
  · refine ⟨g, h1, ?_⟩
    unfold cellAt St.row
    rw [h2]
    simp [hi]
theorem lines_len {S : St} {G : Nat} {sl : Value} {ls : List ByteArray} (h : LinesAt S G sl ls) : ∃ a c, sl = .slice a ls.length c := by
  rcases h with ⟨rfl, rfl⟩ | ⟨_, g, rfl, _⟩
  · exact ⟨none, 0, rfl⟩
  · exact ⟨_, _, rfl⟩

set_option maxRecDepth 100000
theorem lines_ev (H : Hooks) (h4 : H 4 = none) (h6 : ∃ h6f, H 6 = some h6f ∧ ∀ S, h6f [] S = some (.bool true, S)) (hH : H 10 = none) (h22 : H 22 = some (hDec [some 1, some 1] gIdxB)) (h23 : H 23 = some (hDec [some 1, some 1] gPre)) (h24 : H 24 = none) (h25 : H 25 = none) (h47 : H 47 = none) (h75 : H 75 = none) (h77 : H 77 = some (hDec [none, none] gIdxS))
    (S : St) (v : Value) (l : List UInt8) (hv : IsB S v l) (hg : Good S 1073000000) :
    ∃ w S', EvFn Tryd.prog H 4 [v] S w S' ∧ w = .bool true := by
  obtain ⟨h6f, h6, h6v⟩ := h6
  have hc6 : ∀ rc S, callG Tryd.prog H rc 6 [] S = some (.bool true, S) := fun rc S => (call_hook Tryd.func6 h6 rc [] S).trans (h6v S)
  have hlen : ∀ S, Mir.abuiltin Tryd.prog S .len #[23] [v] = some (.int .i64 (l.length : Int), S) := fun S => len_isB Tryd.underlying23 hv S
  refine EvFn.ofQ Tryd.func4 h4 rfl rfl rfl ?_
  refine W.region (n := 0) rfl (by simp [Env.ofArgs]; exact ⟨rfl, rfl⟩) ?_
  refine W.assoc ?_
  by_cases hbig : 4000 < l.length
  · have hd : ((4000 : Int) < (l.length : Int)) = True := by simp; omega
    refine W.region (n := 0) rfl (by simp [hlen, hd]; exact ⟨rfl, rfl⟩) ?_
    refine W.seq_true (by simp) ?_
    refine W.assoc ?_
    refine W.region (n := 0) rfl (by simp [hc6]; exact ⟨rfl, rfl⟩) ?_
    refine W.seq_ret ⟨.inr rfl, _, by simp [resultsG, resListG, resultG, Tryd.f4, oneOrTuple], rfl⟩
  have hd : ((4000 : Int) < (l.length : Int)) = False := by simp; omega
  refine W.region (n := 0) rfl (by simp [hlen, hd]; exact ⟨rfl, rfl⟩) ?_
  refine W.seq_false (by simp) ?_
  refine W.seq_skip ?_
  obtain ⟨w, S1, ⟨n10, hev⟩, sl, n, c, rfl, hR⟩ := head_ev H hH h22 h23 h24 h25 h47 h75 h77 S v l hv (by omega) hg
  have hv1 : IsB S1 v l := hv.ext hg hR.ext
  refine W.region (n := n10) rfl (by simp [hev, extract_tuple]; exact ⟨rfl, rfl⟩) ?_
  refine W.assoc ?_
  by_cases hc : c = 0
  · subst hc
    obtain ⟨hn, hL⟩ := hR.good rfl
    obtain ⟨hne, k, hk, hk1, hk2, hj⟩ := head_lines l hR.code.symm
    rw [hk] at hn
    subst hn
    refine W.region (n := 0) rfl (by simp; exact ⟨rfl, rfl⟩) ?_
    refine W.seq_false (by simp) ?_
    refine W.seq_skip ?_
    refine W.region (n := 0) rfl (by simp; exact ⟨rfl, rfl⟩) ?_
    obtain ⟨sa, sc, hsl⟩ := lines_len hL
    rw [List.length_map] at hsl
    refine W.assoc ?_
    have hls : ∀ S, Mir.abuiltin Tryd.prog S .len #[30] [sl] = some (.int .i64 ((headL l).length : Int), S) := fun S => by rw [hsl]; exact len_slice u30 S sa _ sc
    refine W.region (n := 0) rfl (by simp [hls]; exact ⟨rfl, rfl⟩) ?_
    have hjl : (joinAll (headL l)).length + 2 = k := by
      have := congrArg List.length hj
      rw [List.length_append, List.length_take] at this
      simp [crlf] at this
      omega
    have hfin : ∀ f : Nat → Value, f 2 = .bool true → ∃ v, resultsG Tryd.prog S1 Tryd.f4 ⟨71, f⟩ = some (v, S1) ∧ v = .bool true := fun f h2 => ⟨_, by simp [resultsG, resListG, resultG, Tryd.f4, oneOrTuple, h2], rfl⟩
    refine W.seq (W.mono (Q := fun x E' S' => x = .normal ∧ E'.n = 71 ∧ S' = S1 ∧ E'.f 0 = v ∧ E'.f 4 = .int .i64 (k : Int) ∧ E'.f 6 = .string ⟨⟨joinAll (headL l)⟩⟩) ?_ ?_)
    · refine W.block (W.loop (fun m E S => E.n = 71 ∧ S = S1 ∧ E.f 0 = v ∧ E.f 4 = .int .i64 (k : Int) ∧ E.f 31 = sl ∧ E.f 32 = .int .i64 ((headL l).length : Int) ∧ ∃ i : Nat, i + m = (headL l).length ∧ E.f 33 = .int .i64 (i : Int) ∧ E.f 6 = .string ⟨⟨joinAll ((headL l).take i)⟩⟩) ?_ (headL l).length _ _ ⟨rfl, rfl, by simp, by simp, by simp, by simp, 0, by omega, by simp, by simp [joinAll]⟩)
      rintro m ⟨n, f⟩ S5 ⟨rfl, rfl, f0, f4, f31, f32, i, hi, f33, f6⟩
      simp only at f0 f4 f31 f32 f33 f6
      cases m with
      | zero =>
        have hd : decide ((i : Int) < ((headL l).length : Int)) = false := decide_eq_false (by omega)
        refine W.region (n := 0) rfl (by simp only [opsD_cons, opsD_nil, aop_bin, ev_tmp, get_env, Nat.reduceLT, f32, f33, abin_int, aint_lss, hd, rv_some, exec_val, then_some, put_some]; exact rfl) ?_
        refine W.seq_false (by simp) ?_
        refine W.seq_exit ?_
        show (_ ∧ _) ∨ (_ ∧ _)
        refine .inr ⟨by simp, ?_⟩
        refine ⟨rfl, rfl, rfl, by simp [f0], by simp [f4], ?_⟩
        rw [List.take_of_length_le (by omega)] at f6
        simp [f6]
      | succ m =>
        have hil : i < (headL l).length := by omega
        have hd : decide ((i : Int) < ((headL l).length : Int)) = true := decide_eq_true (by omega)
        have hlk : (headL l).length ≤ 100000 := by
          have : ∀ ps : List (List UInt8), ps.length ≤ (joinAll ps).length := by
            intro ps
            induction ps with
            | nil => exact Nat.zero_le _
            | cons a r ih => show r.length + 1 ≤ ((a ++ crlf) ++ joinAll r).length; rw [List.length_append, List.length_append]; show _ ≤ a.length + 2 + _; omega
          have := this (headL l)
          omega
        have w1 : wrapA .i64 ((i : Int) + 1) = ((i + 1 : Nat) : Int) := wrap_i64 (by omega) (by omega)
        refine W.region (n := 0) rfl (by simp only [opsD_cons, opsD_nil, aop_bin, ev_tmp, get_env, Nat.reduceLT, f32, f33, abin_int, aint_lss, hd, rv_some, exec_val, then_some, put_some]; exact rfl) ?_
        refine W.seq_true (by simp) ?_
        refine W.seq_skip ?_
        obtain ⟨b, hb1, hb2⟩ := lines_at hL (i := i) (x := ⟨⟨(headL l)[i]⟩⟩) (by rw [List.getElem?_map, List.getElem?_eq_getElem hil]; rfl)
        rw [List.length_map] at hb1
        have x1 := idxA_slice u30 size9 b 0 (headL l).length (headL l).length i .i64 hil
        rw [Nat.mul_one, Nat.zero_add] at x1
        rw [Nat.zero_add] at hb2
        have hpe : (headL l)[i] ≠ [] := hne _ (List.getElem_mem hil)
        have hjt : joinAll ((headL l).take (i + 1)) = joinAll ((headL l).take i) ++ ((headL l)[i] ++ crlf) := by
          rw [List.take_succ_eq_append_getElem hil, joinAll_append]
          simp [joinAll]
        have hle : (joinAll ((headL l).take (i + 1))).length ≤ 100000 := by
          have e := congrArg List.length (congrArg joinAll (List.take_append_drop (i + 1) (headL l)))
          rw [joinAll_append, List.length_append] at e
          omega
        have hle2 : (joinAll ((headL l).take i)).length + ((headL l)[i].length + 2) ≤ 100000 := by
          rw [hjt, List.length_append, List.length_append] at hle
          exact hle
        have a1 : Mir.astr .add (headL l)[i] [13, 10] = some (.string ⟨⟨(headL l)[i] ++ crlf⟩⟩) := astr_add _ _ (by show (headL l)[i].length + 2 ≤ _; omega)
        have a2 : Mir.astr .add (joinAll ((headL l).take i)) ((headL l)[i] ++ crlf) = some (.string ⟨⟨joinAll ((headL l).take (i + 1))⟩⟩) := by
          rw [hjt]; exact astr_add _ _ (by rw [List.length_append]; show _ + (_ + 2) ≤ _; omega)
        refine W.seq (W.block ?_)
        refine W.region (n := 0) rfl (by simp [f31, f33, hb1, x1, load_one agg9, hb2]; exact ⟨rfl, rfl⟩) ?_
        refine W.assoc ?_
        refine W.region (n := 0) rfl (by simp; exact ⟨rfl, rfl⟩) ?_
        refine W.seq_false (by simp [hpe]) ?_
        refine W.seq_skip ?_
        refine W.reg (n := 0) rfl (by simp [f6, a1, a2]; exact ⟨rfl, rfl⟩) ?_
        refine .inl ⟨rfl, ?_⟩
        refine W.reg (n := 0) rfl (by simp [f33, w1]; exact ⟨rfl, rfl⟩) ?_
        exact .inl ⟨rfl, m, by omega, rfl, rfl, by simp [f0], by simp [f4], by simp [f31], by simp [f32], i + 1, by omega, by simp, by simp⟩
    rintro x ⟨n, f⟩ S5 ⟨rfl, rfl, rfl, f0, f4, f6⟩
    simp only at f0 f4 f6
    refine .inl ⟨rfl, ?_⟩
    have a3 : Mir.astr .add (joinAll (headL l)) [13, 10] = some (.string ⟨⟨joinAll (headL l) ++ crlf⟩⟩) := astr_add _ _ (by show _ + 2 ≤ _; omega)
    rw [hj] at a3
    refine W.region (n := 0) rfl (by simp [f6, a3]; exact ⟨rfl, rfl⟩) ?_
    have hjl2 : (l.take k).length = k := by rw [List.length_take]; omega
    have hls9 : ∀ S, Mir.abuiltin Tryd.prog S .len #[9] [.string ⟨⟨l.take k⟩⟩] = some (.int .i64 (k : Int), S) := fun S => by
      rw [len_str u9]; show some (Value.int .i64 ((l.take k).length : Int), S) = _; rw [hjl2]
    have hd1 : ((k : Int) ≤ 2048) = True := by simp; omega
    have hd2 : ((k : Int) ≤ (l.length : Int)) = True := by simp; omega
    obtain ⟨v', hs1, hs2⟩ := take_str (S := S5) (ts := 9) Tryd.underlying23 u9 u5 size5 hv1 (by rintro rfl; simp at hk2; omega) hk2
    refine W.region (n := 0) rfl (by simp [f0, f4, hls9, hd1, hd2, hlen, hs1, hs2, hc6]; exact ⟨rfl, rfl⟩) ?_
    exact W.ret ⟨.inr rfl, hfin _ (by simp)⟩
  · obtain ⟨rfl, rfl⟩ := hR.bad hc
    refine W.region (n := 0) rfl (by simp; exact ⟨rfl, rfl⟩) ?_
    refine W.seq_true (by simp [hc]) ?_
    refine W.assoc ?_
    have hl0 : ∀ S, Mir.abuiltin Tryd.prog S .len #[30] [.slice none 0 0] = some (.int .i64 ((0 : Nat) : Int), S) := fun S => len_slice u30 S _ _ _
    refine W.region (n := 0) rfl (by simp [hl0, hc6]; exact ⟨rfl, rfl⟩) ?_
    refine W.seq_ret ⟨.inr rfl, _, by simp [resultsG, resListG, resultG, Tryd.f4, oneOrTuple], rfl⟩
end
end Go.Mig
