/- strings.SplitSeq: the closure that it hands back. -/
import Derived.Test.YtjcfoofbagpooaaDoorRightZ
import Derived.Test.YtjcfoofbagpooaaDoorHkZ
namespace Go.Mig
open Go Go.Mir Go.Mif Go.RowKit Go.Proofs
noncomputable section
theorem size9 : Mir.sizeT Tryd.prog 9 = some 1 := by kernel_rfl
theorem size3 : Mir.sizeT Tryd.prog 3 = some 1 := by kernel_rfl
theorem agg9 : Mir.aggT Tryd.prog 9 = some false := by kernel_rfl
theorem agg3 : Mir.aggT Tryd.prog 3 = some false := by kernel_rfl

/-- The states of the three boxes. -/
def seqS (S : St) (s sep : ByteArray) : St := ((S.push (.cells [.string s] 9 false)).push (.cells [.string sep] 9 false)).push (.cells [.int .i64 0] 3 false)

set_option maxRecDepth 100000
theorem splitSeq_ev (H : Hooks) (hH : H 25 = none) (hH2 : H 47 = none) (S : St) (s sep : ByteArray) (hn : S.next ≤ 1073741000) :
    EvFn Tryd.prog H 25 [.string s, .string sep] S (.func (.func 75) #[] #[.pointer (some ⟨S.next + 1, 0, none⟩), .pointer (some ⟨S.next, 0, none⟩), .pointer (some ⟨S.next + 2, 0, none⟩)]) (seqS S s sep) := by
  have inner : EvFn Tryd.prog H 47 [.string s, .string sep, .int .i64 0] S (.func (.func 75) #[] #[.pointer (some ⟨S.next + 1, 0, none⟩), .pointer (some ⟨S.next, 0, none⟩), .pointer (some ⟨S.next + 2, 0, none⟩)]) (seqS S s sep) := by
    refine EvFn.of_at Tryd.func47 hH2 rfl rfl rfl ?_
    have h1 : ∀ (S : St) (v : ByteArray), S.next ≤ 1073741823 → Mir.newVar Tryd.prog S 9 [.string v] = some (.val (.pointer (some ⟨S.next, 0, none⟩)) (S.push (.cells [.string v] 9 false))) := fun S v h => newVar_eq size9 rfl h
    have h2 : ∀ (S : St) (v : Int), S.next ≤ 1073741823 → Mir.newVar Tryd.prog S 3 [.int .i64 v] = some (.val (.pointer (some ⟨S.next, 0, none⟩)) (S.push (.cells [.int .i64 v] 3 false))) := fun S v h => newVar_eq size3 rfl h
    have n1 := h1 S s (by omega)
    have n2 := h1 (S.push (.cells [.string s] 9 false)) sep (by simp; omega)
    have n3 := h2 ((S.push (.cells [.string s] 9 false)).push (.cells [.string sep] 9 false)) 0 (by simp; omega)
    refine W.region (n := 0) rfl (by simp [Env.ofArgs, Value.cells, n1, n2, n3]; exact ⟨rfl, rfl⟩) ?_
    refine W.region (n := 0) rfl (by simp [Mir.opMakeFunc]; exact ⟨rfl, rfl⟩) ?_
    exact W.ret ⟨rfl, .inr rfl, by simp [resultsG, resListG, resultG, Tryd.f47, oneOrTuple]⟩
  obtain ⟨n, hn1⟩ := inner
  refine EvFn.of_at Tryd.func25 hH rfl rfl rfl ?_
  refine W.region (n := 0) rfl (by simp [Env.ofArgs]; exact ⟨rfl, rfl⟩) ?_
  refine W.region (n := n) rfl (by simp [hn1]; exact ⟨rfl, rfl⟩) ?_
  exact W.ret ⟨rfl, .inr rfl, by simp [resultsG, resListG, resultG, Tryd.f25, oneOrTuple]⟩
end
end Go.Mig
