/- words.right: may a byte of a head stand at its place? -/
import Derived.Test.YtjcfoofbagpooaaDoorMach3
import Derived.Test.YtjcfoofbagpooaaDoorProg
import Derived.KernelRfl
namespace Go.Mig
open Go Go.Mir Go.Mif Go.RowKit Go.Proofs
noncomputable section
theorem agg5 : Mir.aggT Tryd.prog 5 = some false := by kernel_rfl
theorem size5 : Mir.sizeT Tryd.prog 5 = some 1 := by kernel_rfl

def rightB (l : List UInt8) (i : Nat) : Bool :=
  if nb l i = 13 then decide (i + 1 = l.length) || (decide (i + 1 = 2048) || decide (nb l (i + 1) = 10))
  else if nb l i = 10 then decide (0 < i) && decide (nb l (i - 1) = 13)
  else if nb l i = 9 then true
  else decide (32 ≤ nb l i) && decide (nb l i ≤ 126)

set_option maxRecDepth 100000
theorem right_ev (H : Hooks) (hH : H 24 = none) (S : St) (b o c : Nat) (l : List UInt8) (hg : ∀ j, j < l.length → cellAt S ⟨b, o + j, none⟩ = some (.int .u8 (nb l j : Int))) (i : Nat) (hi : i < l.length) (hn : l.length ≤ 4000) :
    EvFn Tryd.prog H 24 [.slice (some ⟨b, o, none⟩) l.length c, .int .i64 (i : Int)] S (.bool (rightB l i)) S := by
  have c0 := hg i hi
  have w1 : wrapA .i64 ((i : Int) + 1) = ((i + 1 : Nat) : Int) := wrap_i64 (by omega) (by omega)
  refine EvFn.of_at Tryd.func24 hH rfl rfl rfl ?_
  refine W.region (n := 0) rfl (by simp [Env.ofArgs]; exact ⟨rfl, rfl⟩) ?_
  refine W.region (n := 0) rfl (by simp [idxA_slice Tryd.underlying23 size5, load_one agg5, hi, c0]; exact ⟨rfl, rfl⟩) ?_
  refine W.region (n := 0) rfl (by simp; exact ⟨rfl, rfl⟩) ?_
  refine W.block ?_
  refine W.region (n := 0) rfl (by simp; exact ⟨rfl, rfl⟩) ?_
  by_cases h13 : nb l i = 13
  · refine W.cond_true (by simp [h13]) ?_
    by_cases h1 : i + 1 = l.length
    · have e1 : ((i : Int) + 1 = (l.length : Int)) = True := by simp; omega
      refine W.region (n := 0) rfl (by simp [len_slice Tryd.underlying23, w1, e1]; exact ⟨rfl, rfl⟩) ?_
      exact W.ret ⟨rfl, .inr rfl, by simp [resultsG, resListG, resultG, Tryd.f24, oneOrTuple, rightB, h13, h1]⟩
    · have e1 : ((i : Int) + 1 = (l.length : Int)) = False := by simp; omega
      by_cases h2 : i + 1 = 2048
      · have e2 : ((i : Int) + 1 = 2048) = True := by simp; omega
        refine W.region (n := 0) rfl (by simp [len_slice Tryd.underlying23, w1, e1, e2]; exact ⟨rfl, rfl⟩) ?_
        exact W.ret ⟨rfl, .inr rfl, by simp [resultsG, resListG, resultG, Tryd.f24, oneOrTuple, rightB, h13, h2]⟩
      · have e2 : ((i : Int) + 1 = 2048) = False := by simp; omega
        have hi1 : i + 1 < l.length := by omega
        have c1 := hg _ hi1
        have x1 : Mir.aindexAddr Tryd.prog 23 (.slice (some ⟨b, o, none⟩) l.length c) (.int .i64 ((i : Int) + 1)) = some (.pointer (some ⟨b, o + (i + 1), none⟩)) := by
          have := idxA_slice Tryd.underlying23 size5 b o l.length c (i + 1) .i64 hi1
          simpa using this
        refine W.region (n := 0) rfl (by simp [len_slice Tryd.underlying23, w1, e1, e2, x1, load_one agg5, c1]; exact ⟨rfl, rfl⟩) ?_
        exact W.ret ⟨rfl, .inr rfl, by simp [resultsG, resListG, resultG, Tryd.f24, oneOrTuple, rightB, h13, h1, h2]; omega⟩
  · refine W.cond_false (by simp; omega) ?_
    refine W.region (n := 0) rfl (by simp; exact ⟨rfl, rfl⟩) ?_
    by_cases h10 : nb l i = 10
    · refine W.cond_true (by simp [h10]) ?_
      by_cases h1 : 0 < i
      · have e1 : (0 < (i : Int)) = True := by simp; omega
        have hi1 : i - 1 < l.length := by omega
        have c1 := hg _ hi1
        have w2 : wrapA .i64 ((i : Int) - 1) = ((i - 1 : Nat) : Int) := by rw [wrap_i64 (by omega) (by omega)]; omega
        have x1 := idxA_slice Tryd.underlying23 size5 b o l.length c (i - 1) .i64 hi1
        refine W.region (n := 0) rfl (by simp [w2, e1, h1, x1, load_one agg5, c1]; exact ⟨rfl, rfl⟩) ?_
        exact W.ret ⟨rfl, .inr rfl, by simp [resultsG, resListG, resultG, Tryd.f24, oneOrTuple, rightB, h10, h1]; omega⟩
      · obtain rfl : i = 0 := by omega
        refine W.region (n := 0) rfl (by simp; exact ⟨rfl, rfl⟩) ?_
        exact W.ret ⟨rfl, .inr rfl, by simp [resultsG, resListG, resultG, Tryd.f24, oneOrTuple, rightB, h10]⟩
    · refine W.cond_false (by simp; omega) ?_
      refine W.region (n := 0) rfl (by simp; exact ⟨rfl, rfl⟩) ?_
      by_cases h9 : nb l i = 9
      · refine W.cond_true (by simp [h9]) ?_
        refine W.region (n := 0) rfl (by simp; exact ⟨rfl, rfl⟩) ?_
        exact W.ret ⟨rfl, .inr rfl, by simp [resultsG, resListG, resultG, Tryd.f24, oneOrTuple, rightB, h9]⟩
      · refine W.cond_false (by simp; omega) ?_
        by_cases h32 : 32 ≤ nb l i
        · have e1 : ((32 : Int) ≤ (nb l i : Int)) = True := by simp; omega
          refine W.region (n := 0) rfl (by simp [e1]; exact ⟨rfl, rfl⟩) ?_
          exact W.ret ⟨rfl, .inr rfl, by simp [resultsG, resListG, resultG, Tryd.f24, oneOrTuple, rightB, h13, h10, h9, h32]; try omega⟩
        · have e1 : ((32 : Int) ≤ (nb l i : Int)) = False := by simp; omega
          refine W.region (n := 0) rfl (by simp [e1]; exact ⟨rfl, rfl⟩) ?_
          exact W.ret ⟨rfl, .inr rfl, by simp [resultsG, resListG, resultG, Tryd.f24, oneOrTuple, rightB, h13, h10, h9, h32]⟩
end
end Go.Mig
