/- The closure that strings.SplitSeq hands back: what it yields. -/
import Derived.Test.YtjcfoofbagpooaaDoorMach3
import Derived.Test.YtjcfoofbagpooaaDoorSeqZ
namespace Go.Mig
open Go Go.Mir Go.Mif Go.RowKit Go.Proofs
noncomputable section
theorem u9 : Tryd.prog.underlying 9 = some .string := by kernel_rfl

/-- The pieces of a text between the instances of another, of two bytes. -/
def pieces (sep : ByteArray) : Nat → List UInt8 → List (List UInt8)
  | 0, l => [l]
  | n + 1, l => if Lib.index l sep.data.toList < 0 then [l] else l.take (Lib.index l sep.data.toList).toNat :: pieces sep n (l.drop ((Lib.index l sep.data.toList).toNat + 2))

theorem pieces_fuel (sep : ByteArray) : ∀ (n m : Nat) (l : List UInt8), l.length ≤ n → l.length ≤ m → sep.data.toList.length = 2 → pieces sep n l = pieces sep m l := by
  intro n
  induction n with
  | zero =>
    intro m l hn hm hs
    cases m with
    | zero => rfl
    | succ m =>
      obtain rfl := List.eq_nil_of_length_eq_zero (Nat.le_zero.1 hn)
      show [[]] = if Lib.index [] sep.data.toList < 0 then _ else _
      rcases index_range [] sep.data.toList with h | ⟨i, h, hi⟩
      · rw [h, if_pos (by decide)]
      · have : i + sep.data.toList.length ≤ 0 := hi
        omega
  | succ n ih =>
    intro m l hn hm hs
    cases m with
    | zero =>
      obtain rfl := List.eq_nil_of_length_eq_zero (Nat.le_zero.1 hm)
      show (if Lib.index [] sep.data.toList < 0 then _ else _) = [[]]
      rcases index_range [] sep.data.toList with h | ⟨i, h, hi⟩
      · rw [h, if_pos (by decide)]
      · have : i + sep.data.toList.length ≤ 0 := hi
        omega
    | succ m =>
      show (if Lib.index l sep.data.toList < 0 then _ else _) = (if Lib.index l sep.data.toList < 0 then _ else _)
      rcases index_range l sep.data.toList with h | ⟨i, h, hi⟩
      · rw [h, if_pos (by decide), if_pos (by decide)]
      · rw [h, if_neg (by omega), if_neg (by omega)]
        rw [ih m _ (by rw [List.length_drop]; simp; omega) (by rw [List.length_drop]; simp; omega) hs]

structure SplitInv (B : Nat) (sep : ByteArray) (S : St) (rest : List UInt8) : Prop where
  s : S.get B = some (.cells [.string ⟨⟨rest⟩⟩] 9 false)
  sep : S.get (B + 1) = some (.cells [.string sep] 9 false)
  save : S.get (B + 2) = some (.cells [.int .i64 0] 3 false)

set_option maxRecDepth 100000
theorem split_ev (H : Hooks) (hH : H 75 = none) (hH2 : H 77 = some (hDec [none, none] gIdxS)) (l B : Nat) (sep : ByteArray) (hsep : sep.data.toList.length = 2) (hB : B ≤ 1073741000) (J : St → List (List UInt8) → Prop)
    (hput : ∀ S acc r, J S acc → (∃ c, S.get B = some c) → J (S.put B (.cells [.string r] 9 false)) acc)
    (hround : ∀ S acc p, J S acc → acc.length + p.length ≤ 4500 → ∃ n S', roundG (runCodeG Tryd.prog H n) l [.string ⟨⟨p⟩⟩] S = some (.bool true, S') ∧ J S' (acc ++ [p]) ∧ (∀ k, k < 3 → S'.get (B + k) = S.get (B + k)))
    (S : St) (rest : List UInt8) (acc : List (List UInt8)) (hJ : J S acc) (hI : SplitInv B sep S rest) (hlen : acc.length + rest.length ≤ 4400) :
    ∃ v S', EvFn Tryd.prog H 75 [.func (.yield l) #[] #[], .pointer (some ⟨B + 1, 0, none⟩), .pointer (some ⟨B, 0, none⟩), .pointer (some ⟨B + 2, 0, none⟩)] S v S' ∧ J S' (acc ++ pieces sep rest.length rest) := by
  have hr1 : ∀ (S : St) (rest : List UInt8), SplitInv B sep S rest → cellAt S ⟨B, 0, none⟩ = some (.string ⟨⟨rest⟩⟩) ∧ cellAt S ⟨B + 1, 0, none⟩ = some (.string sep) ∧ cellAt S ⟨B + 2, 0, none⟩ = some (.int .i64 0) := fun S rest h => ⟨cell_var h.s, cell_var h.sep, cell_var h.save⟩
  have hs2 : sep.data.toList.length = 2 := hsep
  refine EvFn.ofQ Tryd.func75 hH rfl rfl rfl ?_
  refine W.assoc ?_
  obtain ⟨c1, c2, c3⟩ := hr1 S rest hI
  refine W.region (n := 0) rfl (by simp [Env.ofArgs, load_one agg9, load_one agg3, c1, c2, c3, len_str u9, hs2]; exact ⟨rfl, rfl⟩) ?_
  refine W.seq_false (by simp) ?_
  refine W.seq_skip ?_
  refine W.seq (W.block (W.loop (fun m E S => E.n = 52 ∧ E.f 0 = .func (.yield l) #[] #[] ∧ E.f 1 = .pointer (some ⟨B + 1, 0, none⟩) ∧ E.f 2 = .pointer (some ⟨B, 0, none⟩) ∧ E.f 3 = .pointer (some ⟨B + 2, 0, none⟩) ∧ ∃ rest' acc', rest'.length = m ∧ J S acc' ∧ SplitInv B sep S rest' ∧ acc'.length + rest'.length ≤ 4400 ∧ acc' ++ pieces sep m rest' = acc ++ pieces sep rest.length rest) ?_ rest.length _ _ ⟨rfl, by simp, by simp, by simp, by simp, rest, acc, rfl, hJ, hI, hlen, rfl⟩))
  rintro m ⟨n, f⟩ S ⟨rfl, f0, f1, f2, f3, rest', acc', rfl, hJ', hI', hlen', htot⟩
  simp only at f0 f1 f2 f3
  obtain ⟨c1, c2, c3⟩ := hr1 S rest' hI'
  have hix : ∀ S, hDec [none, none] gIdxS [.string ⟨⟨rest'⟩⟩, .string sep] S = some (.int .i64 (Lib.index rest' sep.data.toList), S) := by
    intro S
    rw [hDec_str2]
    show withSt S (bif Nat.blt rest'.length 4294967281 then some (.int .i64 (Lib.index rest' sep.data.toList)) else none) = _
    rw [show Nat.blt rest'.length 4294967281 = true from Nat.ble_eq_true_of_le (by omega)]; rfl
  refine W.block ?_
  refine W.region (n := 0) rfl (by simp [f0, f1, f2, f3, load_one agg9, load_one agg3, c1, c2, c3, call_hook Tryd.func77 hH2, hix]; exact ⟨rfl, rfl⟩) ?_
  refine W.assoc ?_
  rcases index_range rest' sep.data.toList with hx | ⟨i, hx, hi⟩
  · refine W.region (n := 0) rfl (by simp [hx]; exact ⟨rfl, rfl⟩) ?_
    refine W.seq_true (by simp) ?_
    refine W.seq_exit ?_
    show (_ ∧ _) ∨ (_ ∧ _)
    refine .inr ⟨by simp, ?_⟩
    show (_ ∧ _) ∨ (_ ∧ _)
    refine .inl ⟨rfl, ?_⟩
    have hp : pieces sep rest'.length rest' = [rest'] := by
      unfold pieces
      split
      · rfl
      · rw [if_pos (by rw [hx]; decide)]
    obtain ⟨k, S', hk, hJ2, hsame⟩ := hround S acc' rest' hJ' (by omega)
    rw [hp] at htot
    refine W.reg (n := k) rfl (by simp [f0, f2, load_one agg9, c2, c1, aop_round, hk]; exact ⟨rfl, rfl⟩) ?_
    exact ⟨.inl rfl, _, by simp [resultsG, resListG, Tryd.f75]; rfl, by rw [← htot]; exact hJ2⟩
  · have hi' : i ≤ rest'.length := by omega
    have w1 : wrapA .i64 (i : Int) = (i : Int) := by rw [wrap_i64] <;> omega
    have w2 : wrapA .i64 ((i : Int) + 2) = (i : Int) + 2 := by rw [wrap_i64] <;> omega
    have s1 : ∀ S, Mir.aslice Tryd.prog S 9 (.string ⟨⟨rest'⟩⟩) none (some (.int .i64 (i : Int))) none = some (.string ⟨⟨rest'.take i⟩⟩) := fun S => str_hi u9 _ _ _ hi'
    have s2 : ∀ S, Mir.aslice Tryd.prog S 9 (.string ⟨⟨rest'⟩⟩) (some (.int .i64 ((i : Int) + 2))) none none = some (.string ⟨⟨rest'.drop (i + 2)⟩⟩) := fun S => str_lo u9 _ _ (i + 2) (by show i + 2 ≤ rest'.length; omega)
    refine W.region (n := 0) rfl (by simp [hx]; exact ⟨rfl, rfl⟩) ?_
    refine W.seq_false (by simp) ?_
    refine W.seq_skip ?_
    refine W.region (n := 0) rfl (by simp [f3, f2, load_one agg9, load_one agg3, c1, c3, w1, s1]; exact ⟨rfl, rfl⟩) ?_
    refine W.assoc ?_
    obtain ⟨k, S', hk, hJ2, hsame⟩ := hround S acc' (rest'.take i) hJ' (by rw [List.length_take]; omega)
    refine W.region (n := k) rfl (by simp [f0, aop_round, hk]; exact ⟨rfl, rfl⟩) ?_
    refine W.seq_false (by simp) ?_
    refine W.seq_skip ?_
    have g0 : S'.get B = S.get B := hsame 0 (by omega)
    have g1 : S'.get (B + 1) = S.get (B + 1) := hsame 1 (by omega)
    have g2 : S'.get (B + 2) = S.get (B + 2) := hsame 2 (by omega)
    have d1 : cellAt S' ⟨B, 0, none⟩ = some (.string ⟨⟨rest'⟩⟩) := cell_var (g0.trans hI'.s)
    have d2 : cellAt S' ⟨B + 1, 0, none⟩ = some (.string sep) := cell_var (g1.trans hI'.sep)
    have st := store_var (P := Tryd.prog) (v := .string ⟨⟨rest'.drop (i + 2)⟩⟩) size9 (g0.trans hI'.s) rfl rfl
    refine W.reg (n := 0) rfl (by simp [f1, f2, load_one agg9, d1, d2, len_str u9, hs2, w2, s2, st]; exact ⟨rfl, rfl⟩) ?_
    show (_ ∧ _) ∨ (_ ∧ _)
    refine .inl ⟨rfl, (rest'.drop (i + 2)).length, by rw [List.length_drop]; omega, rfl, by simpa using f0, by simpa using f1, by simpa using f2, by simpa using f3, rest'.drop (i + 2), acc' ++ [rest'.take i], rfl, hput _ _ _ hJ2 ⟨_, g0.trans hI'.s⟩, ⟨get_put_same _ (by omega), ?_, ?_⟩, ?_, ?_⟩
    · rw [get_put_other _ (by omega) (by omega)]; exact g1.trans hI'.sep
    · rw [get_put_other _ (by omega) (by omega)]; exact g2.trans hI'.save
    · rw [List.length_append, List.length_drop]; simp; omega
    · rw [← htot, List.append_assoc]
      congr 1
      obtain ⟨q, hq⟩ : ∃ q, rest'.length = q + 1 := ⟨rest'.length - 1, by omega⟩
      rw [hq]
      show _ = (if Lib.index rest' sep.data.toList < 0 then [rest'] else rest'.take (Lib.index rest' sep.data.toList).toNat :: pieces sep q (rest'.drop ((Lib.index rest' sep.data.toList).toNat + 2)))
      rw [hx, if_neg (by omega)]
      show _ :: _ = _ :: _
      congr 1
      exact pieces_fuel sep _ _ _ (Nat.le_refl _) (by rw [List.length_drop]; omega) hsep
end
end Go.Mig
