/- words.Number, words.Digits: a number's digits are read back as the number. -/
import Derived.Test.YtjcfoofbagpooaaDoorMach3
import Derived.Test.YtjcfoofbagpooaaDoorLowZ
import Derived.Test.YtjcfoofbagpooaaDoorFmtZ
import Derived.Test.YtjcfoofbagpooaaDoorAliveZ
import Derived.Lib.ParseIntB
import Derived.Lib.AppendIntMem
namespace Go.Mig
open Go Go.Mir Go.Mif Go.RowKit Go.Proofs Go.Lib
noncomputable section

theorem parse_dec : ∀ (u : Nat) (r : List UInt8), u ≤ 18446744073709551615 → parseUintM 18446744073709551615 0 (decDigits u ++ r) = parseUintM 18446744073709551615 u r := by
  intro u
  induction u using Nat.strongRecOn with
  | _ u ih =>
    intro r hu
    by_cases h : u < 10
    · rw [decDigits, dif_pos h]
      have e : (UInt8.ofNat (48 + u)).toNat = 48 + u := by rw [UInt8.toNat_ofNat']; omega
      show (if 48 ≤ (UInt8.ofNat (48 + u)).toNat ∧ (UInt8.ofNat (48 + u)).toNat ≤ 57 then _ else _) = _
      rw [e, if_pos (by omega), if_neg (by omega), if_neg (by omega)]
      show parseUintM _ (0 * 10 + (48 + u - 48)) r = _
      congr 1; omega
    · rw [decDigits, dif_neg h, List.append_assoc, ih (u / 10) (by omega) _ (by omega)]
      have e : (UInt8.ofNat (48 + u % 10)).toNat = 48 + u % 10 := by rw [UInt8.toNat_ofNat']; omega
      show (if 48 ≤ (UInt8.ofNat (48 + u % 10)).toNat ∧ (UInt8.ofNat (48 + u % 10)).toNat ≤ 57 then _ else _) = _
      rw [e, if_pos (by omega), if_neg (by omega), if_neg (by omega)]
      show parseUintM _ (u / 10 * 10 + (48 + u % 10 - 48)) r = _
      congr 1; omega
theorem dec_digit : ∀ (u : Nat) (c : UInt8), c ∈ decDigits u → 48 ≤ c.toNat ∧ c.toNat ≤ 57 := by
  intro u
  induction u using Nat.strongRecOn with
  | _ u ih =>
    intro c hc
    rw [decDigits] at hc
    by_cases h : u < 10
    · rw [dif_pos h] at hc
      obtain rfl := List.mem_singleton.1 hc
      rw [UInt8.toNat_ofNat']; omega
    · rw [dif_neg h] at hc
      rcases List.mem_append.1 hc with hc | hc
      · exact ih _ (by omega) c hc
      · obtain rfl := List.mem_singleton.1 hc
        rw [UInt8.toNat_ofNat']; omega
theorem dec_head : ∀ (u : Nat), 1 ≤ u → ∃ c r, decDigits u = c :: r ∧ c.toNat ≠ 48 := by
  intro u
  induction u using Nat.strongRecOn with
  | _ u ih =>
    intro h1
    rw [decDigits]
    by_cases h : u < 10
    · rw [dif_pos h]
      refine ⟨_, [], rfl, ?_⟩
      rw [UInt8.toNat_ofNat']; omega
    · rw [dif_neg h]
      obtain ⟨c, r, e, hc⟩ := ih (u / 10) (by omega) (by omega)
      exact ⟨c, r ++ [UInt8.ofNat (48 + u % 10)], by rw [e]; rfl, hc⟩
theorem dec_ne (u : Nat) : decDigits u ≠ [] := by
  intro e
  have := decDigits_length u
  rw [e] at this
  have := nDigits_pos u
  simp at *
  omega
theorem parse_ok (u : Nat) (hu : u ≤ 18446744073709551615) : parseUintB 64 (decDigits u) = .ok u := by
  unfold parseUintB
  rw [if_neg (dec_ne u)]
  have := parse_dec u [] hu
  rw [List.append_nil] at this
  exact this

/-! ### What stands for FormatUint and ParseUint -/
variable {W0 : World}
def HasTab (W0 : World) : Prop := Lib.TabIs Tryd.prog W0 "internal/strconv.uint64pow10" .u64 Lib.pow10Tab
theorem tab_at {w : World} (hT : HasTab W0) (hold : ∀ k, k < W0.heap.size → w.heap[k]? = W0.heap[k]?) : HasTab w := by
  unfold HasTab Lib.TabIs World.var? at *
  cases hg : Tryd.prog.globalNamed "internal/strconv.uint64pow10" with
  | none => rw [hg] at hT; cases hT
  | some g =>
    rw [hg] at hT
    simp only [Option.bind_some] at hT ⊢
    have hlt : g < W0.heap.size := by
      rcases Nat.lt_or_ge g W0.heap.size with h' | h'
      · exact h'
      · rw [Array.getElem?_eq_none h'] at hT; cases hT
    rw [hold g hlt]; exact hT
def gFmt (ds : List Arg) : Option Value :=
  match ds with
  | [.v (.int .u64 (.ofNat n)), .v (.int .i64 (.ofNat b))] => bif Nat.blt n 18446744073709551616 && Nat.beq b 10 then some (.string ⟨(decDigits n).toArray⟩) else none
  | _ => none
theorem fmt_pure (hT : HasTab W0) : PureDec Tryd.prog W0 20 [none, none] gFmt := by
  intro ds v h
  unfold gFmt at h
  split at h
  · rename_i n b
    obtain ⟨hc, h⟩ := cond_some' h
    cases h
    obtain ⟨h1, h2⟩ := Bool.and_eq_true_iff.1 hc
    have h1 := Nat.le_of_ble_eq_true h1
    obtain rfl := Nat.eq_of_beq_eq_true h2
    refine ⟨rfl, fun w args' hold hsz hd => ?_⟩
    obtain ⟨x, y, rfl, hx, hy⟩ := decAll_two hd
    cases hx; cases hy
    refine Calls.mono (Tryd.fmt20 n (by omega) w (tab_at hT hold)) ?_
    rintro e w' ⟨rfl, k, os, rfl⟩
    exact ⟨rfl, Lib.below_grow _ _ (Nat.le_refl _) _ _⟩
  · cases h
theorem decAll_three {w : World} {z1 z2 z3 : Option Nat} {d1 d2 d3 : Arg} {args : List Value} (h : DecAll w [z1, z2, z3] [d1, d2, d3] args) : ∃ x y z, args = [x, y, z] ∧ DecAt w z1 d1 x ∧ DecAt w z2 d2 y ∧ DecAt w z3 d3 z := by
  cases h with
  | cons h1 t => cases t with
    | cons h2 t => cases t with
      | cons h3 t => cases t; exact ⟨_, _, _, rfl, h1, h2, h3⟩
def gPar (ds : List Arg) : Option Value :=
  match ds with
  | [.v (.string s), .v (.int .i64 (.ofNat b)), .v (.int .i64 (.ofNat z))] => bif Nat.ble s.size 1000000 && (Nat.beq b 10 && Nat.beq z 64) then
      match parseUintB 64 s.data.toList with
      | .ok u => some (.tuple #[.int .u64 (u : Int), .nilIface])
      | _ => none
    else none
  | _ => none
theorem par_pure : PureDec Tryd.prog W0 19 [none, none, none] gPar := by
  intro ds v h
  unfold gPar at h
  split at h
  · rename_i s b z
    obtain ⟨hc, h⟩ := cond_some' h
    obtain ⟨h1, h2⟩ := Bool.and_eq_true_iff.1 hc
    obtain ⟨h2, h3⟩ := Bool.and_eq_true_iff.1 h2
    have h1 := Nat.le_of_ble_eq_true h1
    have h2 := Nat.eq_of_beq_eq_true h2
    have h3 := Nat.eq_of_beq_eq_true h3
    clear hc
    cases hu : parseUintB 64 s.data.toList with
    | ok u =>
      rw [hu] at h
      have h := Option.some.inj h
      subst h
      subst h2
      subst h3
      refine ⟨rfl, fun w args' hold hsz hd => ?_⟩
      obtain ⟨x, y, z, rfl, hx, hy, hz⟩ := decAll_three hd
      cases hx; cases hy; cases hz
      refine Calls.mono (Tryd.strconv_ParseUint_10_at64_ok s (by omega) u hu w) ?_
      rintro e w' ⟨rfl, hw⟩
      refine ⟨rfl, ?_⟩
      rcases hw with rfl | rfl
      · exact Below.refl _ _
      · exact Lib.bytesWorld_below _ _ _
    | _ => rw [hu] at h; cases h
  · cases h

/-! ### The walks -/
set_option maxRecDepth 100000
theorem ev_nilif (E : Env) : evG E (.const .nilIface) = .nilIface := id rfl
theorem digits_ev (H : Hooks) (hH : H 8 = none) (h20 : H 20 = some (hDec [none, none] gFmt)) (S : St) (u : Nat) (hu : u < 18446744073709551616) : EvFn Tryd.prog H 8 [.int .u64 (u : Int)] S (.string ⟨(decDigits u).toArray⟩) S := by
  have hk : ∀ rc, callG Tryd.prog H rc 20 [.int .u64 (u : Int), .int .i64 10] S = some (.string ⟨(decDigits u).toArray⟩, S) := fun rc => by
    rw [call_hook Tryd.func20 h20]
    show withSt S (bif Nat.blt u 18446744073709551616 && Nat.beq 10 10 then some (.string ⟨(decDigits u).toArray⟩) else none) = _
    rw [show Nat.blt u 18446744073709551616 = true from Nat.ble_eq_true_of_le hu]; rfl
  refine EvFn.of_at Tryd.func8 hH rfl rfl rfl ?_
  refine W.region (n := 0) rfl (by simp [Env.ofArgs]; exact ⟨rfl, rfl⟩) ?_
  refine W.region (n := 0) rfl (by simp [hk]; exact ⟨rfl, rfl⟩) ?_
  exact W.ret ⟨rfl, .inr rfl, by simp [resultsG, resListG, resultG, Tryd.f8, oneOrTuple]⟩

theorem number_ev (H : Hooks) (hH : H 7 = none) (h19 : H 19 = some (hDec [none, none, none] gPar)) (S : St) (l : List UInt8) (u : Nat) (hne : l ≠ []) (hl : l.length ≤ 1000000) (hz : 1 < l.length → nb l 0 ≠ 48) (hd : ∀ c, c ∈ l → 48 ≤ c.toNat ∧ c.toNat ≤ 57) (hp : parseUintB 64 l = .ok u) :
    EvFn Tryd.prog H 7 [.string ⟨⟨l⟩⟩] S (.tuple #[.int .u64 (u : Int), .int .i64 0]) S := by
  have hk : ∀ rc S, callG Tryd.prog H rc 19 [.string ⟨⟨l⟩⟩, .int .i64 10, .int .i64 64] S = some (.tuple #[.int .u64 (u : Int), .nilIface], S) := fun rc S => by
    rw [call_hook Tryd.func19 h19]
    show withSt S (bif Nat.ble l.length 1000000 && (Nat.beq 10 10 && Nat.beq 64 64) then (match parseUintB 64 l with | .ok u => some (.tuple #[.int .u64 (u : Int), .nilIface]) | _ => none) else none) = _
    rw [Nat.ble_eq_true_of_le hl, hp]; rfl
  have hls : ∀ S, Mir.abuiltin Tryd.prog S .len #[9] [.string ⟨⟨l⟩⟩] = some (.int .i64 (l.length : Int), S) := fun S => len_str u9 ⟨⟨l⟩⟩
  have hix : ∀ i, i < l.length → Mir.aindex Tryd.prog 9 (.string ⟨⟨l⟩⟩) (.int .i64 (i : Int)) = some (.int .u8 (nb l i : Int)) := fun i hi => by
    rw [idx_string u9 ⟨⟨l⟩⟩ i .i64 (l[i]) (List.getElem?_eq_getElem hi)]
    unfold nb
    rw [List.getD_eq_getElem?_getD, List.getElem?_eq_getElem hi]; rfl
  have hpos : 0 < l.length := List.length_pos_iff.2 hne
  have h0 : Mir.aindex Tryd.prog 9 (.string ⟨⟨l⟩⟩) (.int .i64 0) = some (.int .u8 (nb l 0 : Int)) := hix 0 hpos
  have hem : l.isEmpty = false := by cases l with | nil => exact absurd rfl hne | cons a b => rfl
  have hif : Mir.abin Tryd.prog .neq 47 (.tmp 40) (.const .nilIface) .nilIface .nilIface = some (.bool false) := by kernel_rfl
  have hn0 : nb l 0 < 256 := by unfold nb; exact UInt8.toNat_lt _
  refine EvFn.of_at Tryd.func7 hH rfl rfl rfl ?_
  refine W.region (n := 0) rfl (by simp [Env.ofArgs]; exact ⟨rfl, rfl⟩) ?_
  refine W.assoc ?_
  refine W.seq (W.mono (Q := fun x E' S' => x = .normal ∧ E'.n = 43 ∧ S' = S ∧ E'.f 0 = .string ⟨⟨l⟩⟩ ∧ E'.f 18 = .bool false) ?_ ?_)
  · by_cases h1 : 1 < l.length
    · have d1 : ((1 : Int) < (l.length : Int)) = True := by simp; omega
      have d2 : ((nb l 0 : Int) = 48) = False := by have := hz h1; simp; omega
      refine W.reg (n := 0) rfl (by simp [hem, hls, d1, h0, d2]; exact ⟨rfl, rfl⟩) ?_
      exact ⟨rfl, rfl, rfl, by simp, by simp [hem]⟩
    · have d1 : ((1 : Int) < (l.length : Int)) = False := by simp; omega
      refine W.reg (n := 0) rfl (by simp [hem, hls, d1]; exact ⟨rfl, rfl⟩) ?_
      exact ⟨rfl, rfl, rfl, by simp, by simp [hem]⟩
  rintro x ⟨n, f⟩ S' ⟨rfl, rfl, rfl, f0, f18⟩
  simp only at f0 f18
  refine .inl ⟨rfl, ?_⟩
  refine W.seq_false (by simp [f18]) ?_
  refine W.seq_skip ?_
  refine W.assoc ?_
  refine W.region (n := 0) rfl (by simp [f0, hls]; exact ⟨rfl, rfl⟩) ?_
  refine W.seq (W.mono (Q := fun x E' S1 => x = .normal ∧ E'.n = 43 ∧ S1 = S' ∧ E'.f 0 = .string ⟨⟨l⟩⟩) ?_ ?_)
  · refine W.block (W.loop (fun m E S1 => E.n = 43 ∧ S1 = S' ∧ E.f 0 = .string ⟨⟨l⟩⟩ ∧ E.f 20 = .int .i64 (l.length : Int) ∧ ∃ i : Nat, i + m = l.length ∧ E.f 21 = .int .i64 (i : Int)) ?_ l.length _ _ ⟨rfl, rfl, by simp [f0], by simp, 0, by omega, by simp⟩)
    rintro m ⟨n, f⟩ S1 ⟨rfl, rfl, f0, f20, i, hi, f21⟩
    simp only at f0 f20 f21
    cases m with
    | zero =>
      have hd : decide ((i : Int) < (l.length : Int)) = false := decide_eq_false (by omega)
      refine W.region (n := 0) rfl (by simp only [opsD_cons, opsD_nil, aop_bin, ev_tmp, get_env, Nat.reduceLT, f20, f21, abin_int, aint_lss, hd, rv_some, exec_val, then_some, put_some]; exact rfl) ?_
      refine W.seq_false (by simp) ?_
      refine W.seq_exit ?_
      show (_ ∧ _) ∨ (_ ∧ _)
      exact .inr ⟨by simp, rfl, rfl, rfl, by simp [f0]⟩
    | succ m =>
      have hil : i < l.length := by omega
      have hdd : decide ((i : Int) < (l.length : Int)) = true := decide_eq_true (by omega)
      have w1 : wrapA .i64 ((i : Int) + 1) = ((i + 1 : Nat) : Int) := wrap_i64 (by omega) (by omega)
      have hc := hd (l[i]) (List.getElem_mem hil)
      have hnb : nb l i = (l[i]).toNat := by unfold nb; rw [List.getD_eq_getElem?_getD, List.getElem?_eq_getElem hil]; rfl
      have d1 : ((nb l i : Int) < 48) = False := by rw [hnb]; simp; omega
      have d2 : ((57 : Int) < (nb l i : Int)) = False := by rw [hnb]; simp; omega
      have hi1 := hix i hil
      refine W.region (n := 0) rfl (by simp only [opsD_cons, opsD_nil, aop_bin, ev_tmp, get_env, Nat.reduceLT, f20, f21, abin_int, aint_lss, hdd, rv_some, exec_val, then_some, put_some]; exact rfl) ?_
      refine W.seq_true (by simp) ?_
      refine W.seq_skip ?_
      refine W.seq (W.block ?_)
      refine W.region (n := 0) rfl (by simp [f21]; exact ⟨rfl, rfl⟩) ?_
      refine W.region (n := 0) rfl (by simp [f0, hi1, d1, d2]; exact ⟨rfl, rfl⟩) ?_
      refine W.cond_false (by simp) ?_
      refine W.skip ?_
      refine .inl ⟨rfl, ?_⟩
      refine W.reg (n := 0) rfl (by simp [f21, w1]; exact ⟨rfl, rfl⟩) ?_
      exact .inl ⟨rfl, m, by omega, rfl, rfl, by simp [f0], by simp [f20], i + 1, by omega, by simp⟩
  rintro x ⟨n, f⟩ S1 ⟨rfl, rfl, rfl, f0⟩
  simp only at f0
  refine .inl ⟨rfl, ?_⟩
  refine W.region (n := 0) rfl (by simp [f0, hk, extract_tuple]; exact ⟨rfl, rfl⟩) ?_
  refine W.assoc ?_
  refine W.region (n := 0) rfl (by simp [hif, ev_nilif]; exact ⟨rfl, rfl⟩) ?_
  refine W.seq_false (by simp) ?_
  refine W.seq_skip ?_
  refine W.region (n := 0) rfl (by simp; exact ⟨rfl, rfl⟩) ?_
  exact W.ret ⟨rfl, .inr rfl, by simp [resultsG, resListG, resultG, Tryd.f7, oneOrTuple]⟩
end
end Go.Mig
