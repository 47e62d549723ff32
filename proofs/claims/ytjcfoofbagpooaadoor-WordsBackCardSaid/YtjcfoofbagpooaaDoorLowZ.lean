/- words.Lower, words.Alike. -/
import Derived.Test.YtjcfoofbagpooaaDoorMach3
import Derived.Test.YtjcfoofbagpooaaDoorHeadZ
namespace Go.Mig
open Go Go.Mir Go.Mif Go.RowKit Go.Proofs
noncomputable section
def lowC (c : UInt8) : UInt8 := if 65 ≤ c.toNat ∧ c.toNat ≤ 90 then UInt8.ofNat (c.toNat + 32) else c
def lowN (n : Nat) : Nat := if 65 ≤ n ∧ n ≤ 90 then n + 32 else n
theorem lowC_nat (c : UInt8) : (lowC c).toNat = lowN c.toNat := by
  unfold lowC lowN
  split
  · rw [UInt8.toNat_ofNat']; omega
  · rfl
theorem lowC_low (c : UInt8) : lowC (lowC c) = lowC c := by
  apply UInt8.toNat_inj.1
  rw [lowC_nat, lowC_nat]
  unfold lowN
  by_cases h : 65 ≤ c.toNat ∧ c.toNat ≤ 90
  · rw [if_pos h, if_neg (by omega)]
  · rw [if_neg h, if_neg h]
theorem u21 : Tryd.prog.underlying 21 = some (.int .i32) := by kernel_rfl

set_option maxRecDepth 100000
theorem low1_ev (H : Hooks) (hH : H 21 = none) (S : St) (n : Nat) (hn : n < 256) : EvFn Tryd.prog H 21 [.int .i32 (n : Int)] S (.int .i32 (lowN n : Int)) S := by
  refine EvFn.of_at Tryd.func21 hH rfl rfl rfl ?_
  refine W.region (n := 0) rfl (by simp [Env.ofArgs]; exact ⟨rfl, rfl⟩) ?_
  refine W.assoc ?_
  have w1 : wrapA .i32 ((n : Int) + 97) = (n : Int) + 97 := by rw [wrap_i32] <;> omega
  have w2 : wrapA .i32 ((n : Int) + 97 - 65) = ((n + 32 : Nat) : Int) := by rw [wrap_i32] <;> omega
  by_cases h1 : 65 ≤ n
  · have d1 : ((65 : Int) ≤ (n : Int)) = True := by simp; omega
    by_cases h2 : n ≤ 90
    · have d2 : ((n : Int) ≤ 90) = True := by simp; omega
      refine W.region (n := 0) rfl (by simp [d1, d2]; exact ⟨rfl, rfl⟩) ?_
      refine W.seq_true (by simp) ?_
      refine W.assoc ?_
      refine W.region (n := 0) rfl (by simp [w1, w2]; exact ⟨rfl, rfl⟩) ?_
      exact W.seq_ret ⟨rfl, .inr rfl, by simp [resultsG, resListG, resultG, Tryd.f21, oneOrTuple, lowN, h1, h2]⟩
    · have d2 : ((n : Int) ≤ 90) = False := by simp; omega
      refine W.region (n := 0) rfl (by simp [d1, d2]; exact ⟨rfl, rfl⟩) ?_
      refine W.seq_false (by simp) ?_
      refine W.seq_skip ?_
      refine W.region (n := 0) rfl (by simp; exact ⟨rfl, rfl⟩) ?_
      exact W.ret ⟨rfl, .inr rfl, by simp [resultsG, resListG, resultG, Tryd.f21, oneOrTuple, lowN, h1, h2]⟩
  · have d1 : ((65 : Int) ≤ (n : Int)) = False := by simp; omega
    refine W.region (n := 0) rfl (by simp [d1]; exact ⟨rfl, rfl⟩) ?_
    refine W.seq_false (by simp) ?_
    refine W.seq_skip ?_
    refine W.region (n := 0) rfl (by simp; exact ⟨rfl, rfl⟩) ?_
    exact W.ret ⟨rfl, .inr rfl, by simp [resultsG, resListG, resultG, Tryd.f21, oneOrTuple, lowN, h1]⟩

/-- What a call leaves that turns nothing: more blocks, at most k. -/
structure More (S S' : St) (k : Nat) : Prop where
  ext : Ext S S'
  room : S'.next ≤ S.next + k
  fresh : ∀ b, S'.next ≤ b → S'.get b = none

theorem low_ev (H : Hooks) (hH : H 9 = none) (h21 : H 21 = none) (S : St) (l : List UInt8) (hl : l.length ≤ 1000000) (hn : S.next ≤ 1073000000) (hf : ∀ b, S.next ≤ b → S.get b = none) :
    ∃ v S', EvFn Tryd.prog H 9 [.string ⟨⟨l⟩⟩] S v S' ∧ v = .string ⟨⟨l.map lowC⟩⟩ ∧ More S S' 1 := by
  refine EvFn.ofQ Tryd.func9 hH rfl rfl rfl ?_
  refine W.region (n := 0) rfl (by simp [Env.ofArgs]; exact ⟨rfl, rfl⟩) ?_
  have cv := conv_bytes (P := Tryd.prog) (S := S) (t := 9) (u := 23) u9 Tryd.underlying23 u5 size5 ⟨⟨l⟩⟩ (by show l.length ≤ _; omega) (by omega)
  simp only at cv
  refine W.region (n := 0) rfl (by simp [cv]; exact ⟨rfl, rfl⟩) ?_
  refine W.assoc ?_
  have hls : ∀ S b c, Mir.abuiltin Tryd.prog S .len #[23] [.slice b l.length c] = some (.int .i64 (l.length : Int), S) := fun S b c => len_slice Tryd.underlying23 S b _ c
  refine W.region (n := 0) rfl (by simp [hls]; exact ⟨rfl, rfl⟩) ?_
  refine W.seq (W.mono (Q := fun x E' S' => x = .normal ∧ E'.n = 25 ∧ E'.f 3 = .slice (some ⟨S.next, 0, none⟩) l.length l.length ∧ S'.get S.next = some (.cells (cellsOfBytes (l.map lowC)) 5 true) ∧ More S S' 1) ?_ ?_)
  · refine W.block (W.loop (fun m E S' => E.n = 25 ∧ E.f 3 = .slice (some ⟨S.next, 0, none⟩) l.length l.length ∧ E.f 8 = .slice (some ⟨S.next, 0, none⟩) l.length l.length ∧ E.f 9 = .int .i64 (l.length : Int) ∧ More S S' 1 ∧ S'.next = S.next + 1 ∧ ∃ i : Nat, i + m = l.length ∧ E.f 10 = .int .i64 (i : Int) ∧ S'.get S.next = some (.cells (cellsOfBytes ((l.map lowC).take i ++ l.drop i)) 5 true)) ?_ l.length _ _ ⟨rfl, by simp, by simp, by simp, ⟨Ext.push _ (by omega), by simp, fun b hb => by simp at hb; rw [St.get_push _ (by omega), if_neg (by omega)]; exact hf b (by omega)⟩, rfl, 0, by omega, by simp, by simp; exact get_push_same _ (by omega)⟩)
    rintro m ⟨n, f⟩ S1 ⟨rfl, f3, f8, f9, hM, hn1, i, hi, f10, hg⟩
    simp only at f3 f8 f9 f10
    cases m with
    | zero =>
      have hd : decide ((i : Int) < (l.length : Int)) = false := decide_eq_false (by omega)
      refine W.region (n := 0) rfl (by simp only [opsD_cons, opsD_nil, aop_bin, ev_tmp, get_env, Nat.reduceLT, f9, f10, abin_int, aint_lss, hd, rv_some, exec_val, then_some, put_some]; exact rfl) ?_
      refine W.seq_false (by simp) ?_
      refine W.seq_exit ?_
      show (_ ∧ _) ∨ (_ ∧ _)
      refine .inr ⟨by simp, ?_⟩
      rw [List.take_of_length_le (by rw [List.length_map]; omega), List.drop_eq_nil_of_le (by omega), List.append_nil] at hg
      exact ⟨rfl, rfl, by simp [f3], hg, hM⟩
    | succ m =>
      have hil : i < l.length := by omega
      have hd : decide ((i : Int) < (l.length : Int)) = true := decide_eq_true (by omega)
      have w1 : wrapA .i64 ((i : Int) + 1) = ((i + 1 : Nat) : Int) := wrap_i64 (by omega) (by omega)
      refine W.region (n := 0) rfl (by simp only [opsD_cons, opsD_nil, aop_bin, ev_tmp, get_env, Nat.reduceLT, f9, f10, abin_int, aint_lss, hd, rv_some, exec_val, then_some, put_some]; exact rfl) ?_
      refine W.seq_true (by simp) ?_
      refine W.seq_skip ?_
      have x1 := idxA_slice Tryd.underlying23 size5 S.next 0 l.length l.length i .i64 hil
      rw [Nat.mul_one, Nat.zero_add] at x1
      have hlen : ((l.map lowC).take i).length = i := by rw [List.length_take, List.length_map]; omega
      have hci : (cellsOfBytes ((l.map lowC).take i ++ l.drop i))[i]? = some (.int .u8 ((l[i]).toNat : Int)) := by
        unfold cellsOfBytes
        rw [List.getElem?_map, List.getElem?_append_right (by omega), hlen, Nat.sub_self, List.getElem?_drop, Nat.add_zero, List.getElem?_eq_getElem hil]; rfl
      have c1 := cell_at hg hci
      have hlt := (l[i]).toNat_lt
      have v1 : ∀ S, Mir.aconvert Tryd.prog S 5 21 (.int .u8 ((l[i]).toNat : Int)) = some (.int .i32 ((l[i]).toNat : Int), S) := fun S => by
        rw [conv_int u5 u21, wrap_i32 (by omega) (by omega)]
      have hlo : lowN (l[i]).toNat < 256 := by unfold lowN; split <;> omega
      have v2 : ∀ S, Mir.aconvert Tryd.prog S 21 5 (.int .i32 (lowN (l[i]).toNat : Int)) = some (.int .u8 ((lowC l[i]).toNat : Int), S) := fun S => by
        rw [conv_int u21 u5, wrap_u8, Nat.mod_eq_of_lt hlo, lowC_nat]
      obtain ⟨k, hk⟩ := low1_ev H h21 S1 (l[i]).toNat hlt
      have st := store_cell (P := Tryd.prog) (v := .int .u8 ((lowC l[i]).toNat : Int)) size5 hg rfl rfl (show i < _ by unfold cellsOfBytes; rw [List.length_map, List.length_append, List.length_drop, hlen]; omega)
      refine W.seq (W.block ?_)
      refine W.region (n := 0) rfl (by simp [f8, f10, x1, load_one agg5, c1]; exact ⟨rfl, rfl⟩) ?_
      refine W.reg (n := k) rfl (by simp [f3, v1, hk, v2, x1, st]; exact ⟨rfl, rfl⟩) ?_
      refine .inl ⟨rfl, ?_⟩
      refine W.reg (n := 0) rfl (by simp [f10, w1]; exact ⟨rfl, rfl⟩) ?_
      refine .inl ⟨rfl, m, by omega, rfl, by simp [f3], by simp [f8], by simp [f9], ⟨⟨hM.ext.next, fun b hb => by rw [get_put_other _ (by omega) (by omega)]; exact hM.ext.same b hb⟩, hM.room, fun b hb => ?_⟩, hn1, i + 1, by omega, by simp, ?_⟩
      · have hb : S1.next ≤ b := hb
        rw [get_put_other _ (by omega) (by omega)]; exact hM.fresh b hb
      · rw [get_put_same _ (by omega), bytes_set]
        congr 3
        rw [List.set_append_right _ _ (by omega), hlen, Nat.sub_self, List.take_succ_eq_append_getElem (by rw [List.length_map]; exact hil), List.append_assoc]
        congr 1
        rw [List.drop_eq_getElem_cons hil, List.getElem_map]
        rfl
  rintro x ⟨n, f⟩ S1 ⟨rfl, rfl, f3, hg, hM⟩
  simp only at f3
  refine .inl ⟨rfl, ?_⟩
  have ct := conv_text (P := Tryd.prog) (t := 23) (u := 9) Tryd.underlying23 u9 u5 hg l.length
  rw [List.length_map] at ct
  refine W.region (n := 0) rfl (by simp [f3, ct]; exact ⟨rfl, rfl⟩) ?_
  exact W.ret ⟨.inr rfl, _, by simp [resultsG, resListG, resultG, Tryd.f9, oneOrTuple], rfl, hM⟩

theorem More.trans {A B C : St} {j k : Nat} (h : More A B j) (g : More B C k) : More A C (j + k) := ⟨h.ext.trans g.ext, by have := h.room; have := g.room; omega, g.fresh⟩
theorem alike_ev (H : Hooks) (hH : H 11 = none) (h9 : H 9 = none) (h21 : H 21 = none) (S : St) (a b : List UInt8) (ha : a.length ≤ 1000000) (hb : b.length ≤ 1000000) (hn : S.next ≤ 1072000000) (hf : ∀ b, S.next ≤ b → S.get b = none) :
    ∃ v S', EvFn Tryd.prog H 11 [.string ⟨⟨a⟩⟩, .string ⟨⟨b⟩⟩] S v S' ∧ v = .bool (a.map lowC == b.map lowC) ∧ More S S' 2 := by
  obtain ⟨_, S1, ⟨n1, e1⟩, rfl, m1⟩ := low_ev H h9 h21 S a ha (by omega) hf
  have r1 := m1.room
  obtain ⟨_, S2, ⟨n2, e2⟩, rfl, m2⟩ := low_ev H h9 h21 S1 b hb (by omega) m1.fresh
  have e1' := call_le (run_le (show n1 ≤ n1 + n2 by omega)) _ _ _ _ e1
  have e2' := call_le (run_le (show n2 ≤ n1 + n2 by omega)) _ _ _ _ e2
  refine EvFn.ofQ Tryd.func11 hH rfl rfl rfl ?_
  refine W.region (n := 0) rfl (by simp [Env.ofArgs]; exact ⟨rfl, rfl⟩) ?_
  refine W.region (n := n1 + n2) rfl (by simp [e1', e2']; exact ⟨rfl, rfl⟩) ?_
  exact W.ret ⟨.inr rfl, _, by simp [resultsG, resListG, resultG, Tryd.f11, oneOrTuple], rfl, m1.trans m2⟩
end
end Go.Mig
