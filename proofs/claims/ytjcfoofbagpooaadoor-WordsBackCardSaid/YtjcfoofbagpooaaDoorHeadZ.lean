/- words.Head. -/
import Derived.Test.YtjcfoofbagpooaaDoorMach3
import Derived.Test.YtjcfoofbagpooaaDoorSplitZ
namespace Go.Mig
open Go Go.Mir Go.Mif Go.RowKit Go.Proofs
noncomputable section
theorem u30 : Tryd.prog.underlying 30 = some (.slice 9) := by kernel_rfl
theorem u5 : Tryd.prog.underlying 5 = some (.int .u8) := by kernel_rfl
theorem size30 : Mir.sizeT Tryd.prog 30 = some 1 := by kernel_rfl
theorem agg30 : Mir.aggT Tryd.prog 30 = some false := by kernel_rfl
def crlf : List UInt8 := [13, 10]
def crlf2 : List UInt8 := [13, 10, 13, 10]
theorem bs4 {S : St} (E : Env) (h : S.next ≤ 1073741823) : Mif.opBuildSlice (FP.of Tryd.prog) S (evG E) 23 4 #[(0, .const (.int .u8 13)), (1, .const (.int .u8 10)), (2, .const (.int .u8 13)), (3, .const (.int .u8 10))] = some (.val (.slice (some ⟨S.next, 0, none⟩) 4 4) (S.push (.cells (cellsOfBytes crlf2) 5 false))) := by
  have : Mif.opBuildSlice (FP.of Tryd.prog) S (evG E) 23 4 #[(0, .const (.int .u8 13)), (1, .const (.int .u8 10)), (2, .const (.int .u8 13)), (3, .const (.int .u8 10))] = rvs (newSlice S 5 (cellsOfBytes crlf2) false 4 4) := by kernel_rfl
  rw [this, newSlice_eq _ _ _ _ _ h]; rfl
theorem bs2 {S : St} (E : Env) (h : S.next ≤ 1073741823) : Mif.opBuildSlice (FP.of Tryd.prog) S (evG E) 23 2 #[(0, .const (.int .u8 13)), (1, .const (.int .u8 10))] = some (.val (.slice (some ⟨S.next, 0, none⟩) 2 2) (S.push (.cells (cellsOfBytes crlf) 5 false))) := by
  have : Mif.opBuildSlice (FP.of Tryd.prog) S (evG E) 23 2 #[(0, .const (.int .u8 13)), (1, .const (.int .u8 10))] = rvs (newSlice S 5 (cellsOfBytes crlf) false 2 2) := by kernel_rfl
  rw [this, newSlice_eq _ _ _ _ _ h]; rfl
theorem bs1 {S : St} (E : Env) (p : ByteArray) (hE : evG E (.tmp 61) = .string p) (h : S.next ≤ 1073741823) : Mif.opBuildSlice (FP.of Tryd.prog) S (evG E) 30 1 #[(0, .tmp 61)] = some (.val (.slice (some ⟨S.next, 0, none⟩) 1 1) (S.push (.cells [.string p] 9 false))) := by
  have e1 : Mif.opBuildSlice (FP.of Tryd.prog) S (evG E) 30 1 #[(0, .tmp 61)] = (match fillA (placeE 1) [.string ⟨#[]⟩] [(0, evG E (.tmp 61))] with | some cells => rvs (newSlice S 9 cells false 1 1) | none => none) := by kernel_rfl
  rw [e1, hE]
  show rvs (newSlice S 9 [.string p] false 1 1) = _
  rw [newSlice_eq _ _ _ _ _ h]; rfl
theorem hk22 {S : St} {x y : Value} {l s : List UInt8} (hx : IsB S x l) (hy : IsB S y s) (h1 : l.length ≤ 100000) (h2 : 2 ≤ s.length) (h3 : s.length < 100) : hDec [some 1, some 1] gIdxB [x, y] S = some (.int .i64 (Lib.index l s), S) := by
  rw [hDec_two _ hx hy]
  show withSt S (match byteCells (cellsOfBytes l), byteCells (cellsOfBytes s) with | some l', some s' => (bif Nat.blt l.length 4294967281 && (Nat.ble 2 s.length && Nat.blt s.length 100) then some (.int .i64 (Lib.index l' s')) else none) | _, _ => none) = _
  rw [byteCells_of, byteCells_of]
  simp only
  rw [show Nat.blt l.length 4294967281 = true from Nat.ble_eq_true_of_le (by omega), Nat.ble_eq_true_of_le h2, show Nat.blt s.length 100 = true from Nat.ble_eq_true_of_le h3]
  rfl
theorem hk23 {S : St} {x y : Value} {l s : List UInt8} (hx : IsB S x l) (hy : IsB S y s) : hDec [some 1, some 1] gPre [x, y] S = some (.bool (Lib.hasPrefix l s), S) := by
  rw [hDec_two _ hx hy]
  show withSt S (match byteCells (cellsOfBytes l), byteCells (cellsOfBytes s) with | some l', some s' => some (.bool (Lib.hasPrefix l' s')) | _, _ => none) = _
  rw [byteCells_of, byteCells_of]
  rfl

/-! ### What words.Head says -/
def headAt (l : List UInt8) : Int := if Lib.hasPrefix l crlf then -2 else Lib.index l crlf2
def headIn (l : List UInt8) : Bool := if 0 ≤ headAt l then true else Lib.hasPrefix l crlf
def headN (l : List UInt8) : Nat := if headIn l then min (min l.length 2048) (headAt l + 4).toNat else min l.length 2048
def headRight (l : List UInt8) : Bool := (List.range (headN l)).all (rightB l)
/-- The code of a head: 0 none, 3 a byte that may not stand, 4 there may come more, 8 too long. -/
def headC (l : List UInt8) : Int := if headRight l then (if headIn l && decide (headAt l + 4 ≤ 2048) then 0 else if l.length < 2048 then 4 else 8) else 3
/-- The lines of a head. -/
def headL (l : List UInt8) : List (List UInt8) := let t := l.take (max (headAt l) 0).toNat; (pieces ⟨⟨crlf⟩⟩ t.length t).filter (· ≠ [])

/-- What a call of words.Head leaves. -/
structure HeadR (S : St) (l : List UInt8) (sl : Value) (n c : Int) (S' : St) : Prop where
  ext : Ext S S'
  room : S'.next ≤ S.next + 10000
  fresh : ∀ b, S'.next ≤ b → S'.get b = none
  code : c = headC l
  bad : c ≠ 0 → sl = .slice none 0 0 ∧ n = 0
  good : c = 0 → n = headAt l + 4 ∧ LinesAt S' S.next sl ((headL l).map fun t => ⟨⟨t⟩⟩)

theorem LinesAt.put {S : St} {G : Nat} {sl : Value} {ls : List ByteArray} (h : LinesAt S G sl ls) {b : Nat} (x : ABlk) (hb : b < G) (hG : G ≤ 1073741823) : LinesAt (S.put b x) G sl ls := by
  rcases h with h | ⟨h1, g, h2, h3, h4, h5⟩
  · exact .inl h
  · exact .inr ⟨h1, g, h2, h3, h4, by rw [get_put_other _ (by omega) (by omega)]; exact h5⟩
theorem LinesAt.push {S : St} {G : Nat} {sl : Value} {ls : List ByteArray} (h : LinesAt S G sl ls) (x : ABlk) (hn : S.next ≤ 1073741823) : LinesAt (S.push x) G sl ls := by
  rcases h with h | ⟨h1, g, h2, h3, h4, h5⟩
  · exact .inl h
  · exact .inr ⟨h1, g, h2, h3, by simp; omega, by rw [get_push_other _ (by omega) h4]; exact h5⟩
theorem LinesAt.one {S : St} {G : Nat} {sl : Value} {ls : List ByteArray} (h : LinesAt S G sl ls) : sl.cells.toList = [sl] ∧ oneCell sl = true := by
  rcases h with ⟨_, rfl⟩ | ⟨_, g, rfl, _⟩
  · exact ⟨rfl, rfl⟩
  · exact ⟨rfl, rfl⟩
theorem LinesAt.mono {S : St} {G G' : Nat} {sl : Value} {ls : List ByteArray} (h : LinesAt S G sl ls) (hG : G' ≤ G) : LinesAt S G' sl ls := by
  rcases h with h | ⟨h1, g, h2, h3, h4, h5⟩
  · exact .inl h
  · exact .inr ⟨h1, g, h2, by omega, h4, h5⟩
theorem text30 : TextSlice Tryd.prog 30 := by
  have h : (Tryd.prog.info? 9).map (fun i => (i.size, i.bytes)) = some (1, 16) := by kernel_rfl
  obtain ⟨i, hi, he⟩ := Option.map_eq_some_iff.1 h
  exact ⟨u30, ⟨i, hi, congrArg (·.1) he, congrArg (·.2) he⟩, by kernel_rfl⟩

/-- What holds between the rounds of the range over the pieces. -/
structure RoundInv (S0 : St) (X B L : Nat) (r : Loop) (S : St) (acc : List (List UInt8)) : Prop where
  lo : S0.next ≤ S.next
  hi : S.next ≤ S0.next + 2 * acc.length
  loop : S.get L = some (.obj (.loop r))
  lines : ∃ sl, S.get X = some (.cells [sl] 30 false) ∧ LinesAt S S0.next sl ((acc.filter (· ≠ [])).map fun t => ⟨⟨t⟩⟩)
  same : ∀ b, b < S0.next → b ≠ X → b ≠ L → (b < B ∨ B + 2 < b) → S.get b = S0.get b
  fresh : ∀ b, S.next ≤ b → S.get b = none

theorem pieces_len (sep : ByteArray) : ∀ (n : Nat) (l : List UInt8), (pieces sep n l).length ≤ n + 1
  | 0, _ => by simp [pieces]
  | n + 1, l => by
    unfold pieces
    split
    · simp
    · have := pieces_len sep n (l.drop ((Lib.index l sep.data.toList).toNat + 2))
      simp only [List.length_cons]
      omega
theorem seqS_get {S : St} {s sep : ByteArray} (h : S.next ≤ 1073741000) : (seqS S s sep).get S.next = some (.cells [.string s] 9 false) ∧ (seqS S s sep).get (S.next + 1) = some (.cells [.string sep] 9 false) ∧ (seqS S s sep).get (S.next + 2) = some (.cells [.int .i64 0] 3 false) ∧ (∀ b, b < S.next → (seqS S s sep).get b = S.get b) ∧ (∀ b, S.next + 3 ≤ b → S.get b = none → (seqS S s sep).get b = none) := by
  unfold seqS
  refine ⟨?_, ?_, ?_, fun b hb => ?_, fun b hb hn => ?_⟩
  · rw [get_push_other _ (by simp; omega) (by simp; omega), get_push_other _ (by simp; omega) (by simp), get_push_same _ (by omega)]
  · rw [get_push_other _ (by simp; omega) (by simp)]; exact get_push_same _ (by simp; omega)
  · exact get_push_same _ (by simp; omega)
  · rw [get_push_other _ (by simp; omega) (by simp; omega), get_push_other _ (by simp; omega) (by simp; omega), get_push_other _ (by omega) (by omega)]
  · rw [St.get_push _ (by simp; omega), if_neg (by simp; omega), St.get_push _ (by simp; omega), if_neg (by simp; omega), St.get_push _ (by omega), if_neg (by omega)]; exact hn

theorem right_isB (H : Hooks) (hH : H 24 = none) {S : St} {v : Value} {l : List UInt8} (hv : IsB S v l) {i : Nat} (hi : i < l.length) (hn : l.length ≤ 4000) : EvFn Tryd.prog H 24 [v, .int .i64 (i : Int)] S (.bool (rightB l i)) S := by
  obtain ⟨b, o, c, rfl, _⟩ := hv.at hi
  refine right_ev H hH S b o c l (fun j hj => ?_) i hi hn
  obtain ⟨b', o', c', e, h⟩ := hv.at hj
  cases e
  exact h
theorem head_res {S : St} {f : Nat → Value} {sl : Value} {n c : Int} (h2 : f 2 = sl) (h3 : f 3 = .int .i64 n) (h4 : f 4 = .int .i64 c) : resultsG Tryd.prog S Tryd.f10 ⟨71, f⟩ = some (.tuple #[sl, .int .i64 n, .int .i64 c], S) := by
  simp [resultsG, resListG, resultG, Tryd.f10, oneOrTuple, h2, h3, h4]
theorem Ext.id {S S' : St} (h : S' = S) : Ext S S' := h ▸ Ext.refl S
theorem head_n (l : List UInt8) : headN l ≤ l.length := by
  unfold headN
  split <;> omega

set_option maxRecDepth 100000
theorem head_ev (H : Hooks) (hH : H 10 = none) (h22 : H 22 = some (hDec [some 1, some 1] gIdxB)) (h23 : H 23 = some (hDec [some 1, some 1] gPre)) (h24 : H 24 = none) (h25 : H 25 = none) (h47 : H 47 = none) (h75 : H 75 = none) (h77 : H 77 = some (hDec [none, none] gIdxS))
    (S : St) (v : Value) (l : List UInt8) (hv : IsB S v l) (hl : l.length ≤ 4000) (hg : Good S 1073000000) :
    ∃ w S', EvFn Tryd.prog H 10 [v] S w S' ∧ ∃ sl n c, w = .tuple #[sl, .int .i64 n, .int .i64 c] ∧ HeadR S l sl n c S' := by
  have hroom := hg.room
  refine EvFn.ofQ Tryd.func10 hH rfl rfl rfl ?_
  refine W.region (n := 0) rfl (by simp [Env.ofArgs]; exact ⟨rfl, rfl⟩) ?_
  have b4 := fun E => bs4 (S := S) E (by omega)
  have g1 : Good (S.push (.cells (cellsOfBytes crlf2) 5 false)) 1073000001 := hg.push _ (by omega)
  have x1 : Ext S (S.push (.cells (cellsOfBytes crlf2) 5 false)) := Ext.push _ (by omega)
  have v1 := hv.ext hg x1
  have i1 := isB_new (S := S) crlf2 5 false (by omega) (by decide)
  have q1 := conv_same (P := Tryd.prog) (S := S.push (.cells (cellsOfBytes crlf2) 5 false)) (t := 23) (o := 0) (l := 4) (c := 4) Tryd.underlying23 u5 (get_push_same _ (by omega)) (by omega)
  have k1 := hk22 v1 i1 (by omega) (by decide) (by decide)
  rw [show crlf2.length = 4 from rfl] at k1
  have hc22 : ∀ rc args S, callG Tryd.prog H rc 22 args S = hDec [some 1, some 1] gIdxB args S := fun rc args S => call_hook Tryd.func22 h22 rc args S
  have hc23 : ∀ rc args S, callG Tryd.prog H rc 23 args S = hDec [some 1, some 1] gPre args S := fun rc args S => call_hook Tryd.func23 h23 rc args S
  refine W.region (n := 0) rfl (by simp [b4, q1, hc22, k1]; exact ⟨rfl, rfl⟩) ?_
  generalize hS1 : S.push (.cells (cellsOfBytes crlf2) 5 false) = S1 at *
  have n1 : S1.next = S.next + 1 := by rw [← hS1]; rfl
  have b2 := fun E => bs2 (S := S1) E (by omega)
  have g2 : Good (S1.push (.cells (cellsOfBytes crlf) 5 false)) 1073000002 := g1.push _ (by omega)
  have x2 : Ext S1 (S1.push (.cells (cellsOfBytes crlf) 5 false)) := Ext.push _ (by omega)
  have v2 := v1.ext g1 x2
  have i2 := isB_new (S := S1) crlf 5 false (by omega) (by decide)
  have q2 := conv_same (P := Tryd.prog) (S := S1.push (.cells (cellsOfBytes crlf) 5 false)) (t := 23) (o := 0) (l := 2) (c := 2) Tryd.underlying23 u5 (get_push_same _ (by omega)) (by omega)
  have k2 := hk23 v2 i2
  rw [show crlf.length = 2 from rfl] at k2
  refine W.assoc ?_
  refine W.region (n := 0) rfl (by simp [b2, q2, hc23, k2]; exact ⟨rfl, rfl⟩) ?_
  generalize hS2 : S1.push (.cells (cellsOfBytes crlf) 5 false) = S2 at *
  have n2 : S2.next = S1.next + 1 := by rw [← hS2]; rfl
  have v2 := v2
  have hfin : ∀ (f : Nat → Value) (c : Int), f 2 = .slice none 0 0 → f 3 = .int .i64 0 → f 4 = .int .i64 c → c = headC l → c ≠ 0 → ∃ v, resultsG Tryd.prog S2 Tryd.f10 ⟨71, f⟩ = some (v, S2) ∧ ∃ sl n c, v = .tuple #[sl, .int .i64 n, .int .i64 c] ∧ HeadR S l sl n c S2 := by
    intro f c h2 h3 h4 hc hc0
    exact ⟨_, head_res h2 h3 h4, _, _, _, rfl, ⟨x1.trans x2, by omega, g2.fresh, hc, fun _ => ⟨rfl, rfl⟩, fun h => absurd h hc0⟩⟩
  have hfour : (4 : Int) + 0 = 4 := rfl
  refine W.seq (W.mono (Q := fun x E' S' => x = .normal ∧ E'.n = 71 ∧ E'.f 0 = v ∧ E'.f 5 = .int .i64 (headAt l) ∧ S' = S2) ?_ ?_)
  · cases hp : Lib.hasPrefix l crlf with
    | true =>
      refine W.cond_true (by simp [hp]) ?_
      refine W.reg (n := 0) rfl (by simp; exact ⟨rfl, rfl⟩) ?_
      exact ⟨rfl, rfl, by simp, by simp [headAt, hp], rfl⟩
    | false =>
      refine W.cond_false (by simp [hp]) ?_
      exact W.skip ⟨rfl, rfl, by simp, by simp [headAt, hp], rfl⟩
  rintro x ⟨n, f⟩ S' ⟨rfl, rfl, f0, f5, rfl⟩
  simp only at f0 f5
  refine .inl ⟨rfl, ?_⟩
  have b2' := fun E => bs2 (S := S') E (by omega)
  have v3 := v2.ext g2 (Ext.push (.cells (cellsOfBytes crlf) 5 false) (by omega : S'.next < 1073741824))
  have i3 := isB_new (S := S') crlf 5 false (by omega) (by decide)
  have q3 := conv_same (P := Tryd.prog) (S := S'.push (.cells (cellsOfBytes crlf) 5 false)) (t := 23) (o := 0) (l := 2) (c := 2) Tryd.underlying23 u5 (get_push_same _ (by omega)) (by omega)
  have k3 := hk23 v3 i3
  rw [show crlf.length = 2 from rfl] at k3
  have hlim : -2 ≤ headAt l ∧ headAt l ≤ 4000 := by
    unfold headAt
    split
    · omega
    · rcases index_range l crlf2 with h | ⟨i, h, hi⟩ <;> omega
  have w4 : wrapA .i64 (headAt l + 4) = headAt l + 4 := by rw [wrap_i64] <;> omega
  refine W.seq (W.mono (Q := fun x E' S3 => x = .normal ∧ E'.n = 71 ∧ E'.f 0 = v ∧ E'.f 5 = .int .i64 (headAt l) ∧ E'.f 6 = .bool (headIn l) ∧ Ext S' S3 ∧ S3.next ≤ S'.next + 1 ∧ (∀ b, S3.next ≤ b → S3.get b = none)) ?_ ?_)
  · by_cases h0 : 0 ≤ headAt l
    · refine W.reg (n := 0) rfl (by simp [f0, f5, h0]; exact ⟨rfl, rfl⟩) ?_
      exact ⟨rfl, rfl, by simp [f0], by simp [f5], by simp [headIn, h0], Ext.refl _, by omega, g2.fresh⟩
    · refine W.reg (n := 0) rfl (by simp [f0, f5, h0, b2', q3, k3, hc23]; exact ⟨rfl, rfl⟩) ?_
      exact ⟨rfl, rfl, by simp [f0], by simp [f5], by simp [headIn, h0], Ext.push _ (by omega), by simp, (g2.push _ (by omega)).fresh⟩
  rintro x ⟨n, f⟩ S3 ⟨rfl, rfl, f0, f5, f6, e3, n3, fr3⟩
  simp only at f0 f5 f6
  refine .inl ⟨rfl, ?_⟩
  have v4 : IsB S3 v l := v2.ext g2 e3
  have eS : Ext S S3 := (x1.trans x2).trans e3
  have nn3 : S3.next ≤ S.next + 3 := by omega
  clear b2' v3 i3 q3 k3 hfin
  have hlen : ∀ S, Mir.abuiltin Tryd.prog S .len #[23] [v] = some (.int .i64 (l.length : Int), S) := fun S => len_isB Tryd.underlying23 v4 S
  have hmin : (if (2048 : Int) < (l.length : Int) then (2048 : Int) else (l.length : Int)) = ((min l.length 2048 : Nat) : Int) := by split <;> omega
  refine W.region (n := 0) rfl (by simp [f0, hlen, hmin]; exact ⟨rfl, rfl⟩) ?_
  refine W.seq (W.mono (Q := fun x E' S4 => x = .normal ∧ E'.n = 71 ∧ E'.f 0 = v ∧ E'.f 5 = .int .i64 (headAt l) ∧ E'.f 6 = .bool (headIn l) ∧ E'.f 7 = .int .i64 (headN l : Int) ∧ S4 = S3) ?_ ?_)
  · refine W.region (n := 0) rfl (by simp [f6]; exact ⟨rfl, rfl⟩) ?_
    cases hi : headIn l with
    | true =>
      have hm2 : (if headAt l + 4 < ((min l.length 2048 : Nat) : Int) then headAt l + 4 else ((min l.length 2048 : Nat) : Int)) = (headN l : Int) := by
        unfold headN
        rw [hi, if_pos rfl]
        split <;> omega
      refine W.cond_true (by simp [hi]) ?_
      refine W.reg (n := 0) rfl (by simp [f5, w4, hm2]; exact ⟨rfl, rfl⟩) ?_
      exact ⟨rfl, rfl, by simp [f0], by simp [f5], by simp [f6, hi], by simp, rfl⟩
    | false =>
      refine W.cond_false (by simp [hi]) ?_
      exact W.skip ⟨rfl, rfl, by simp [f0], by simp [f5], by simp [f6, hi], by simp [headN, hi], rfl⟩
  rintro x ⟨n, f⟩ S4 ⟨rfl, rfl, f0, f5, f6, f7, rfl⟩
  simp only at f0 f5 f6 f7
  refine .inl ⟨rfl, ?_⟩
  refine W.assoc ?_
  refine W.region (n := 0) rfl (by simp [f7]; exact ⟨rfl, rfl⟩) ?_
  refine W.seq (W.mono (Q := fun x E' S5 => E'.n = 71 ∧ S5 = S4 ∧ ((x = .normal ∧ headRight l = true ∧ E'.f 0 = v ∧ E'.f 5 = .int .i64 (headAt l) ∧ E'.f 6 = .bool (headIn l)) ∨ (x = .ret ∧ headRight l = false ∧ E'.f 2 = .slice none 0 0 ∧ E'.f 3 = .int .i64 0 ∧ E'.f 4 = .int .i64 3))) ?_ ?_)
  · refine W.block (W.loop (fun m E S => E.n = 71 ∧ S = S4 ∧ E.f 0 = v ∧ E.f 5 = .int .i64 (headAt l) ∧ E.f 6 = .bool (headIn l) ∧ E.f 35 = .int .i64 (headN l : Int) ∧ ∃ i : Nat, i + m = headN l ∧ E.f 36 = .int .i64 (i : Int) ∧ ∀ j, j < i → rightB l j = true) ?_ (headN l) _ _ ⟨rfl, rfl, by simp [f0], by simp [f5], by simp [f6], by simp, 0, by omega, by simp, fun j hj => by omega⟩)
    rintro m ⟨n, f⟩ S5 ⟨rfl, rfl, f0, f5, f6, f35, i, hi, f36, hr⟩
    simp only at f0 f5 f6 f35 f36
    cases m with
    | zero =>
      have hd : decide ((i : Int) < (headN l : Int)) = false := decide_eq_false (by omega)
      refine W.region (n := 0) rfl (by simp only [opsD_cons, opsD_nil, aop_bin, ev_tmp, get_env, Nat.reduceLT, f35, f36, abin_int, aint_lss, hd, rv_some, exec_val, then_some, put_some]; exact rfl) ?_
      refine W.seq_false (by simp) ?_
      refine W.seq_exit ?_
      show (_ ∧ _) ∨ (_ ∧ _)
      refine .inr ⟨by simp, ?_⟩
      refine ⟨rfl, rfl, .inl ⟨rfl, ?_, by simp [f0], by simp [f5], by simp [f6]⟩⟩
      unfold headRight
      rw [List.all_eq_true]
      intro j hj
      exact hr j (by have := List.mem_range.1 hj; omega)
    | succ m =>
      have hd : decide ((i : Int) < (headN l : Int)) = true := decide_eq_true (by omega)
      have w1 : wrapA .i64 ((i : Int) + 1) = ((i + 1 : Nat) : Int) := wrap_i64 (by omega) (by have := head_n l; omega)
      refine W.region (n := 0) rfl (by simp only [opsD_cons, opsD_nil, aop_bin, ev_tmp, get_env, Nat.reduceLT, f35, f36, abin_int, aint_lss, hd, rv_some, exec_val, then_some, put_some]; exact rfl) ?_
      refine W.seq_true (by simp) ?_
      refine W.seq_skip ?_
      have hil : i < l.length := by have := head_n l; omega
      obtain ⟨k, hk⟩ := right_isB H h24 v4 hil hl
      refine W.seq (W.block ?_)
      refine W.region (n := 0) rfl (by simp [f36]; exact ⟨rfl, rfl⟩) ?_
      refine W.region (n := k) rfl (by simp [f0, hk]; exact ⟨rfl, rfl⟩) ?_
      cases hb : rightB l i with
      | true =>
        refine W.cond_false (by simp [hb]) ?_
        refine W.skip ?_
        refine .inl ⟨rfl, ?_⟩
        refine W.reg (n := 0) rfl (by simp [f36, w1]; exact ⟨rfl, rfl⟩) ?_
        refine .inl ⟨rfl, m, by omega, rfl, rfl, by simp [f0], by simp [f5], by simp [f6], by simp [f35], i + 1, by omega, by simp, ?_⟩
        intro j hj
        by_cases he : j = i
        · rw [he]; exact hb
        · exact hr j (by omega)
      | false =>
        refine W.cond_true (by simp [hb]) ?_
        refine W.region (n := 0) rfl (by simp; exact ⟨rfl, rfl⟩) ?_
        refine W.ret ?_
        refine .inr ⟨by simp, .inr ⟨by simp, ?_⟩⟩
        refine ⟨rfl, rfl, .inr ⟨rfl, ?_, by simp, by simp, by simp⟩⟩
        unfold headRight
        rw [Bool.eq_false_iff]
        intro h
        have := List.all_eq_true.1 h i (List.mem_range.2 (by omega))
        rw [hb] at this; cases this
  rintro x ⟨n, f⟩ S5 ⟨rfl, rfl, hcase⟩
  simp only at hcase
  rcases hcase with ⟨rfl, hright, f0, f5, f6⟩ | ⟨rfl, hright, f2, f3, f4⟩
  rotate_left
  · refine .inr ⟨by simp, .inr rfl, _, head_res f2 f3 f4, _, _, _, rfl, eS, by omega, fr3, by unfold headC; rw [hright]; rfl, fun _ => ⟨rfl, rfl⟩, fun h => absurd h (by decide)⟩
  refine .inl ⟨rfl, ?_⟩
  have hlen5 := hlen S5
  have hfin : ∀ (f : Nat → Value) (c : Int), f 2 = .slice none 0 0 → f 3 = .int .i64 0 → f 4 = .int .i64 c → c = headC l → c ≠ 0 → ∃ v, resultsG Tryd.prog S5 Tryd.f10 ⟨71, f⟩ = some (v, S5) ∧ ∃ sl n c, v = .tuple #[sl, .int .i64 n, .int .i64 c] ∧ HeadR S l sl n c S5 := by
    intro f c h2 h3 h4 hc hc0
    exact ⟨_, head_res h2 h3 h4, _, _, _, rfl, ⟨eS, by omega, fr3, hc, fun _ => ⟨rfl, rfl⟩, fun h => absurd h hc0⟩⟩
  refine W.seq (W.block ?_)
  refine W.seq (W.mono (Q := fun x E' S6 => x = .normal ∧ E'.n = 71 ∧ S6 = S5 ∧ E'.f 0 = v ∧ E'.f 5 = .int .i64 (headAt l) ∧ E'.f 44 = .bool (headIn l && decide (headAt l + 4 ≤ 2048))) ?_ ?_)
  · cases hi : headIn l with
    | true =>
      refine W.reg (n := 0) rfl (by simp [f5, f6, hi, w4]; exact ⟨rfl, rfl⟩) ?_
      exact ⟨rfl, rfl, rfl, by simp [f0], by simp [f5], by simp⟩
    | false =>
      refine W.reg (n := 0) rfl (by simp [f5, f6, hi]; exact ⟨rfl, rfl⟩) ?_
      exact ⟨rfl, rfl, rfl, by simp [f0], by simp [f5], by simp⟩
  rintro x ⟨n, f⟩ S6 ⟨rfl, rfl, rfl, f0, f5, f44⟩
  simp only at f0 f5 f44
  refine .inl ⟨rfl, ?_⟩
  cases hok : (headIn l && decide (headAt l + 4 ≤ 2048)) with
  | false =>
    rw [hok] at f44
    refine W.cond_false (by simp [f44]) ?_
    have hcl : headC l = if l.length < 2048 then 4 else 8 := by unfold headC; rw [hright, hok]; rfl
    by_cases hsm : l.length < 2048
    · have hd : ((l.length : Int) < 2048) = True := by simp; omega
      refine W.region (n := 0) rfl (by simp [f0, hlen5, hd]; exact ⟨rfl, rfl⟩) ?_
      refine W.cond_true (by simp) ?_
      refine W.region (n := 0) rfl (by simp; exact ⟨rfl, rfl⟩) ?_
      refine W.ret ?_
      refine .inr ⟨by simp, .inr rfl, hfin _ 4 (by simp) (by simp) (by simp) (by rw [hcl, if_pos hsm]) (by decide)⟩
    · have hd : ((l.length : Int) < 2048) = False := by simp; omega
      refine W.region (n := 0) rfl (by simp [f0, hlen5, hd]; exact ⟨rfl, rfl⟩) ?_
      refine W.cond_false (by simp) ?_
      refine W.skip ?_
      refine .inl ⟨rfl, ?_⟩
      refine W.region (n := 0) rfl (by simp; exact ⟨rfl, rfl⟩) ?_
      refine W.ret ?_
      refine ⟨.inr rfl, hfin _ 8 (by simp) (by simp) (by simp) (by rw [hcl, if_neg hsm]) (by decide)⟩
  | true =>
    rw [hok] at f44
    obtain ⟨hin, h4⟩ := Bool.and_eq_true_iff.1 hok
    have h4 := of_decide_eq_true h4
    have hcl : headC l = 0 := by unfold headC; rw [hright, hok]; rfl
    have hne : l ≠ [] := by
      rintro rfl
      have : headIn [] = false := by decide
      rw [this] at hin; cases hin
    refine W.cond_true (by simp [f44]) ?_
    have hal : ∀ S : St, S.next ≤ 1073741823 → Mir.opAlloc Tryd.prog S 30 = some (.val (.pointer (some ⟨S.next, 0, none⟩)) (S.push (.cells [.slice none 0 0] 30 false))) := fun S h => by
      unfold Mir.opAlloc
      rw [show Mir.zeroT Tryd.prog 30 = some (.slice none 0 0) by kernel_rfl]
      exact newVar_eq size30 rfl h
    have hal1 := hal S6 (by omega)
    refine W.region (n := 0) rfl (by simp [hal1]; exact ⟨rfl, rfl⟩) ?_
    have v5 : IsB (S6.push (.cells [.slice none 0 0] 30 false)) v l := v4.ext ⟨fr3, Nat.le_refl _⟩ (Ext.push _ (by omega))
    have hmx : (if headAt l < 0 then (0 : Int) else headAt l) = (((max (headAt l) 0).toNat : Nat) : Int) := by split <;> omega
    have htk : (max (headAt l) 0).toNat ≤ l.length := by
      unfold headAt
      split
      · omega
      · rcases index_range l crlf2 with h | ⟨i, h, hi⟩ <;> omega
    obtain ⟨v', hs1, hs2⟩ := take_str (ts := 9) Tryd.underlying23 u9 u5 size5 v5 hne htk
    generalize hT : l.take (max (headAt l) 0).toNat = T at *
    obtain ⟨n25, hn25⟩ := splitSeq_ev H h25 h47 (S6.push (.cells [.slice none 0 0] 30 false)) ⟨⟨T⟩⟩ ⟨⟨crlf⟩⟩ (by simp; omega)
    rw [show (⟨⟨crlf⟩⟩ : ByteArray) = ⟨#[13, 10]⟩ from rfl] at hn25
    refine W.assoc ?_
    generalize hmm : ((max (headAt l) 0).toNat : Int) = mm at *
    refine W.region (n := n25) rfl (by simp [f0, f5, hmx, hs1, hs2, hn25]; exact ⟨rfl, rfl⟩) ?_
    generalize hS7 : S6.push (.cells [.slice none 0 0] 30 false) = S7 at *
    have n7 : S7.next = S6.next + 1 := by rw [← hS7]; rfl
    have n8 : (seqS S7 ⟨⟨T⟩⟩ ⟨#[13, 10]⟩).next = S7.next + 3 := rfl
    refine W.seq (W.block ?_)
    generalize hS8 : seqS S7 ⟨⟨T⟩⟩ ⟨#[13, 10]⟩ = S8 at *
    refine W.rangeQ (g := 75) (fi := #[]) (ca := #[.pointer (some ⟨S6.next + 1 + 1, 0, none⟩), .pointer (some ⟨S6.next + 1, 0, none⟩), .pointer (some ⟨S6.next + 1 + 2, 0, none⟩)]) (by simp) h75 (show (71 : Nat) ≤ 1000000 by omega) (by omega) ?_
    intro r hr
    have n9 : (S8.push (.obj (.loop r))).next = S8.next + 1 := rfl
    generalize hS9 : S8.push (.obj (.loop r)) = S9 at *
    have hround : ∀ (S : St) (acc : List (List UInt8)) (p : List UInt8), RoundInv S9 S6.next (S6.next + 1) S8.next r S acc → acc.length + p.length ≤ 4500 → ∃ n S', roundG (runCodeG Tryd.prog H n) S8.next [.string ⟨⟨p⟩⟩] S = some (.bool true, S') ∧ RoundInv S9 S6.next (S6.next + 1) S8.next r S' (acc ++ [p]) ∧ (∀ k, k < 3 → S'.get (S6.next + 1 + k) = S.get (S6.next + 1 + k)) := by
      intro S acc p hJ hlen
      have hSn : S.next ≤ 1073500000 := by have := hJ.hi; omega
      obtain ⟨sl, hX, hL⟩ := hJ.lines
      have hlo : S8.next + 1 ≤ S.next := by have := hJ.lo; omega
      have hlp := hJ.loop
      have hrr := hr
      clear hS9
      subst hr
      obtain ⟨k, S3, hk, hR⟩ := round_W (P := Tryd.prog) (H := H) (args := [.string ⟨⟨p⟩⟩]) (R := fun S3 => S3.next ≤ S.next + 2 ∧ S.next ≤ S3.next ∧ (∀ b, b < S9.next → b ≠ S6.next → b ≠ S8.next → S3.get b = S.get b) ∧ (∀ b, S3.next ≤ b → S3.get b = none) ∧ ∃ sl, S3.get S6.next = some (.cells [sl] 30 false) ∧ LinesAt S3 S9.next sl (((acc ++ [p]).filter (· ≠ [])).map fun t => ⟨⟨t⟩⟩)) hlp rfl rfl rfl (by kernel_rfl) (by kernel_rfl) (by unfold Env.list; simp) (by
        show W _ _ _ (Env.ofArgs (roundTmps [(57, .string ⟨⟨p⟩⟩)] (Env.list _)) (Env.list _).length) _ _
        rw [round_env1 _ _ _ (show (57 : Nat) < 71 by omega)]
        refine W.reg (n := 0) rfl (by simp; exact ⟨rfl, rfl⟩) ?_
        refine ⟨rfl, rfl, ?_⟩
        have hLS : S8.next < 1073741824 := by omega
        refine W.block ?_
        by_cases hp : p = []
        · subst hp
          refine W.region (n := 0) rfl (by simp; exact ⟨rfl, rfl⟩) ?_
          refine W.cond_false (by simp) ?_
          refine W.skip ?_
          refine ⟨rfl, get_put_same _ hLS, by simp, by simp, fun b h1 h2 h3 => get_put_other _ hLS h3, fun b hb => ?_, sl, ?_, ?_⟩
          · simp at hb; rw [get_put_other _ hLS (by omega)]; exact hJ.fresh b hb
          · rw [get_put_other _ hLS (by omega)]; exact hX
          · rw [show (acc ++ [([] : List UInt8)]).filter (· ≠ []) = acc.filter (· ≠ []) by simp]
            exact hL.put _ (by omega) (by omega)
        · have hne : (p == []) = false := by cases p with | nil => exact absurd rfl hp | cons a b => rfl
          refine W.region (n := 0) rfl (by simp; exact ⟨rfl, rfl⟩) ?_
          refine W.cond_true (by simp [hp]) ?_
          generalize hSb : S.put S8.next _ = Sb
          have nb : Sb.next = S.next := by rw [← hSb]; rfl
          have gb : ∀ b, b ≠ S8.next → Sb.get b = S.get b := fun b hb => by rw [← hSb]; exact get_put_other _ hLS hb
          have hXb : Sb.get S6.next = some (.cells [sl] 30 false) := by rw [gb _ (by omega)]; exact hX
          have hLb : LinesAt Sb S9.next sl ((acc.filter (· ≠ [])).map fun t => ⟨⟨t⟩⟩) := by rw [← hSb]; exact hL.put _ (by omega) (by omega)
          have c1 := cell_var hXb
          have hb1 := fun E hE => bs1 (S := Sb) E ⟨⟨p⟩⟩ hE (by omega)
          obtain ⟨sl', S11, ha, hL1, hn1, hs1, hf1⟩ := append_lines text30 (S := Sb.push (.cells [.string ⟨⟨p⟩⟩] 9 false)) (G := S9.next) (hLb.push _ (by omega)) ⟨⟨p⟩⟩ (nb := Sb.next) (get_push_same _ (by omega)) (by simp; omega) (by simp; omega) (by rw [List.length_map]; have := List.length_filter_le (fun x : List UInt8 => decide (x ≠ [])) acc; omega)
          have hX1 : S11.get S6.next = some (.cells [sl] 30 false) := by rw [hs1 _ (by omega), get_push_other _ (by omega) (by omega)]; exact hXb
          have st := store_var (P := Tryd.prog) (v := sl') size30 hX1 hL1.one.1 hL1.one.2
          refine W.reg (n := 0) rfl (by simp [load_one agg30, c1, hb1, ha, st]; exact ⟨rfl, rfl⟩) ?_
          have hn1' : S11.next = S.next + 2 := by rw [hn1, ← nb]; rfl
          have hXl : S6.next < 1073741824 := by omega
          have g11 : ∀ b, b < S9.next → b ≠ S8.next → S11.get b = S.get b := fun b h1 h2 => by
            rw [hs1 _ h1, get_push_other _ (by omega) (by omega), gb _ h2]
          refine ⟨rfl, ?_, by simp; omega, by simp; omega, fun b h1 h2 h3 => ?_, fun b hb => ?_, sl', get_put_same _ hXl, ?_⟩
          · rw [get_put_other _ hXl (by omega), hs1 _ (by omega), get_push_other _ (by omega) (by omega), ← hSb]
            exact get_put_same _ hLS
          · rw [get_put_other _ hXl h2]; exact g11 b h1 h3
          · simp at hb
            rw [get_put_other _ hXl (by omega)]
            refine hf1 b hb ?_
            rw [St.get_push _ (by omega), if_neg (by omega), gb _ (by omega)]
            exact hJ.fresh b (by omega)
          · rw [show (acc ++ [p]).filter (· ≠ []) = acc.filter (· ≠ []) ++ [p] by rw [List.filter_append]; simp [hp], List.map_append]
            exact hL1.put _ (by omega) (by omega))
      obtain ⟨hR1, hR2, hR3, hR4, sl', hR5, hR6⟩ := hR
      have hLS : S8.next < 1073741824 := by omega
      refine ⟨k, _, hk, ⟨?_, ?_, get_put_same _ hLS, ⟨sl', ?_, hR6.put _ (by omega) (by omega)⟩, fun b h1 h2 h3 h4 => ?_, fun b hb => ?_⟩, fun k hk => ?_⟩
      · show S9.next ≤ S3.next; omega
      · have := hJ.hi
        show S3.next ≤ _
        rw [List.length_append]
        show S3.next ≤ S9.next + 2 * (acc.length + 1)
        omega
      · rw [get_put_other _ hLS (by omega)]; exact hR5
      · rw [get_put_other _ hLS h3, hR3 b h1 h2 h3]; exact hJ.same b h1 h2 h3 h4
      · have hb : S3.next ≤ b := hb
        rw [get_put_other _ hLS (by omega)]; exact hR4 b hb
      · rw [get_put_other _ hLS (by omega)]; exact hR3 _ (by omega) (by omega) (by omega)
    have hput : ∀ (S : St) (acc : List (List UInt8)) (x : ByteArray), RoundInv S9 S6.next (S6.next + 1) S8.next r S acc → (∃ c, S.get (S6.next + 1) = some c) → RoundInv S9 S6.next (S6.next + 1) S8.next r (S.put (S6.next + 1) (.cells [.string x] 9 false)) acc := by
      intro S acc x hJ _
      have hB : S6.next + 1 < 1073741824 := by omega
      obtain ⟨sl, hX, hL⟩ := hJ.lines
      refine ⟨hJ.lo, hJ.hi, ?_, ⟨sl, ?_, hL.put _ (by omega) (by omega)⟩, fun b h1 h2 h3 h4 => ?_, fun b hb => ?_⟩
      · rw [get_put_other _ hB (by omega)]; exact hJ.loop
      · rw [get_put_other _ hB (by omega)]; exact hX
      · rw [get_put_other _ hB (by omega)]; exact hJ.same b h1 h2 h3 h4
      · have hlo := hJ.lo
        have hb : S.next ≤ b := hb
        rw [get_put_other _ hB (by omega)]; exact hJ.fresh b hb
    obtain ⟨z0, z1, z2, z3, z4⟩ := seqS_get (S := S7) (s := ⟨⟨T⟩⟩) (sep := ⟨#[13, 10]⟩) (by omega)
    rw [hS8] at z0 z1 z2 z3 z4
    rw [n7] at z0 z1 z2 z3 z4
    have y9 : ∀ b, b < S8.next → S9.get b = S8.get b := fun b hb => by rw [← hS9]; exact get_push_other _ (by omega) hb
    have y7 : ∀ b, b < S6.next → S7.get b = S6.get b := fun b hb => by rw [← hS7]; exact get_push_other _ (by omega) hb
    have hf7 : ∀ b, S7.next ≤ b → S7.get b = none := fun b hb => by
      rw [← hS7, St.get_push _ (by omega), if_neg (by omega)]; exact fr3 b (by omega)
    have hf9 : ∀ b, S9.next ≤ b → S9.get b = none := fun b hb => by
      rw [← hS9, St.get_push _ (by omega), if_neg (by omega)]
      exact z4 b (by omega) (hf7 b (by omega))
    have hJ0 : RoundInv S9 S6.next (S6.next + 1) S8.next r S9 [] := by
      refine ⟨Nat.le_refl _, by simp, ?_, ⟨.slice none 0 0, ?_, .inl ⟨rfl, rfl⟩⟩, fun _ _ _ _ _ => rfl, hf9⟩
      · rw [← hS9]; exact get_push_same _ (by omega)
      · rw [y9 _ (by omega), z3 _ (by omega), ← hS7]; exact get_push_same _ (by omega)
    have hI0 : SplitInv (S6.next + 1) ⟨#[13, 10]⟩ S9 T := ⟨by rw [y9 _ (by omega)]; exact z0, by rw [y9 _ (by omega)]; exact z1, by rw [y9 _ (by omega)]; exact z2⟩
    have hTl : T.length ≤ 4000 := by rw [← hT, List.length_take]; omega
    obtain ⟨w, S10, hev, hJ1⟩ := split_ev H h75 h77 S8.next (S6.next + 1) ⟨#[13, 10]⟩ rfl (by omega) (RoundInv S9 S6.next (S6.next + 1) S8.next r) hput hround S9 T [] hJ0 hI0 (by simp; omega)
    obtain ⟨sl, hX, hL⟩ := hJ1.lines
    refine ⟨w, S10, hev, hJ1.loop, .inl ⟨rfl, ?_⟩⟩
    have hpl : (pieces ⟨#[13, 10]⟩ T.length T).length ≤ T.length + 1 := pieces_len _ _ _
    have hlo := hJ1.lo
    have eSn := eS.next
    have hhi : S10.next ≤ S9.next + 2 * (pieces ⟨#[13, 10]⟩ T.length T).length := hJ1.hi
    have hL8 : S8.next < 1073741824 := by omega
    have c1 : cellAt (S10.put S8.next (.obj (.loop { r with state := .exhausted }))) ⟨S6.next, 0, none⟩ = some sl := cell_var (g := false) (e := 30) (cs := []) (by rw [get_put_other _ hL8 (by omega)]; exact hX)
    refine W.region (n := 0) rfl (by simp [load_one agg30, c1, f5, w4]; exact ⟨rfl, rfl⟩) ?_
    refine W.ret (.inr ⟨by simp, .inr rfl, _, head_res (sl := sl) (n := headAt l + 4) (c := 0) (by simp) (by simp) (by simp), sl, headAt l + 4, 0, rfl, ⟨?_, ?_⟩, ?_, fun b hb => ?_, hcl.symm, fun h => absurd rfl h, fun _ => ⟨rfl, ?_⟩⟩)
    · show S.next ≤ S10.next; omega
    · intro b hb
      rw [get_put_other _ hL8 (by omega), hJ1.same b (by omega) (by omega) (by omega) (.inl (by omega)), y9 _ (by omega), z3 _ (by omega), ← hS7, get_push_other _ (by omega) (by omega)]
      exact eS.same b hb
    · show S10.next ≤ S.next + 10000; omega
    · have hb : S10.next ≤ b := hb
      rw [get_put_other _ hL8 (by omega)]; exact hJ1.fresh b hb
    · have hLL : LinesAt (S10.put S8.next (.obj (.loop { r with state := .exhausted }))) S9.next sl (((pieces ⟨#[13, 10]⟩ T.length T).filter (· ≠ [])).map fun t => ⟨⟨t⟩⟩) := hL.put _ (by omega) (by omega)
      have : headL l = (pieces ⟨#[13, 10]⟩ T.length T).filter (· ≠ []) := by unfold headL; rw [hT]; rfl
      rw [this]
      exact hLL.mono (by omega)
end
end Go.Mig
