/- What stands for functions of the library: bytes.Index, bytes.HasPrefix, strings.Index. -/
import Derived.Test.YtjcfoofbagpooaaDoorMach3
import Derived.Test.YtjcfoofbagpooaaDoorLib1Z
import Derived.KernelRfl
namespace Go.Mig
open Go Go.Mir Go.Mif Go.RowKit Go.Proofs
noncomputable section

/-- Cells that are bytes. -/
def byteCells : List Value → Option (List UInt8)
  | [] => some []
  | .int .u8 (.ofNat n) :: r => bif Nat.blt n 256 then (byteCells r).map (UInt8.ofNat n :: ·) else none
  | _ => none
theorem byteCells_eq : ∀ {cs : List Value} {l : List UInt8}, byteCells cs = some l → cs = cellsOfBytes l
  | [], l, h => by cases h; rfl
  | x :: r, l, h => by
    unfold byteCells at h
    split at h
    · rename_i h1; cases h1
    · rename_i n r' h1
      cases h1
      obtain ⟨hn, h⟩ := cond_some' h
      have hn := Nat.le_of_ble_eq_true hn
      cases hr : byteCells r with
      | none => rw [hr] at h; cases h
      | some l' =>
        rw [hr] at h; cases h
        rw [byteCells_eq hr]
        show _ = .int .u8 ((UInt8.ofNat n).toNat : Int) :: cellsOfBytes l'
        rw [UInt8.toNat_ofNat', Nat.mod_eq_of_lt (by omega)]; rfl
    · cases h
theorem byteCells_of : ∀ l : List UInt8, byteCells (cellsOfBytes l) = some l
  | [] => rfl
  | c :: l => by
    show (bif Nat.blt c.toNat 256 then (byteCells (cellsOfBytes l)).map (UInt8.ofNat c.toNat :: ·) else none) = _
    rw [show Nat.blt c.toNat 256 = true from Nat.ble_eq_true_of_le c.toNat_lt, byteCells_of l]
    simp

def numsOf (l : List UInt8) : List Int := l.map fun c => (c.toNat : Int)
theorem nums_bytes (l : List UInt8) : Lib.bytesOf (numsOf l) = l := by
  unfold Lib.bytesOf numsOf
  rw [List.map_map]
  conv => rhs; rw [← List.map_id l]
  apply List.map_congr_left
  intro c _
  simp
theorem nums_len (l : List UInt8) : (numsOf l).length = l.length := by unfold numsOf; simp
theorem nums_in (l : List UInt8) : ∀ x ∈ numsOf l, 0 ≤ x ∧ x < 256 := by
  intro x hx
  obtain ⟨c, _, rfl⟩ := List.mem_map.1 hx
  have := c.toNat_lt
  omega

/-- The concrete cells of a slice. -/
theorem dec_cells {w : World} {n : Nat} {l : List UInt8} {y : Value} (h : DecAt w (some 1) (.s n (cellsOfBytes l)) y) : l.length = n ∧ ((y = .slice none 0 0 ∧ l = []) ∨ ∃ a c, y = .slice (some a) n c ∧ n ≤ c ∧ ∀ i, i < n → w.cell? (a.add i) = some (.int .u8 ((numsOf l).getD i 0))) := by
  generalize hcs : cellsOfBytes l = cs at h
  have nil_of : cs = [] → l = [] := by
    intro e; subst hcs
    cases l with
    | nil => rfl
    | cons a b => simp [cellsOfBytes] at e
  cases h with
  | nil sz => obtain rfl := nil_of rfl; exact ⟨rfl, .inl ⟨rfl, rfl⟩⟩
  | zero sz a => obtain rfl := nil_of rfl; exact ⟨rfl, .inr ⟨a, 0, rfl, Nat.le_refl _, fun i hi => by omega⟩⟩
  | zeroC sz b o c hb => obtain rfl := nil_of rfl; exact ⟨rfl, .inr ⟨_, c, rfl, Nat.zero_le _, fun i hi => by omega⟩⟩
  | some sz n cs b o c C e F hcap hp hl hw hc =>
    subst hcs
    have hn : l.length = n := by simpa [cellsOfBytes] using hl
    refine ⟨hn, .inr ⟨_, c, rfl, hcap, fun i hi => ?_⟩⟩
    have h1 := hc i (.int .u8 (nb l i : Int)) (bytes_at l i (by omega))
    rw [addr_add, cell_row hw]
    rw [h1]
    unfold numsOf nb
    rw [List.getD_eq_getElem?_getD, List.getD_eq_getElem?_getD, List.getElem?_map, List.getElem?_eq_getElem (by omega)]
    rfl

def gIdxB (ds : List Arg) : Option Value :=
  match ds with
  | [.s n cs, .s m cs'] => match byteCells cs, byteCells cs' with
    | some l, some s => bif Nat.blt n 4294967281 && (Nat.ble 2 m && Nat.blt m 100) then some (.int .i64 (Lib.index l s)) else none
    | _, _ => none
  | _ => none
def gPre (ds : List Arg) : Option Value :=
  match ds with
  | [.s n cs, .s m cs'] => match byteCells cs, byteCells cs' with
    | some l, some s => some (.bool (Lib.hasPrefix l s))
    | _, _ => none
  | _ => none
def gIdxS (ds : List Arg) : Option Value :=
  match ds with
  | [.v (.string a), .v (.string b)] => bif Nat.blt a.size 4294967281 then some (.int .i64 (Lib.index a.data.toList b.data.toList)) else none
  | _ => none

theorem decAll_two {w : World} {z1 z2 : Option Nat} {d1 d2 : Arg} {args : List Value} (h : DecAll w [z1, z2] [d1, d2] args) : ∃ x y, args = [x, y] ∧ DecAt w z1 d1 x ∧ DecAt w z2 d2 y := by
  cases h with
  | cons h1 t => cases t with
    | cons h2 t => cases t; exact ⟨_, _, rfl, h1, h2⟩

variable {W0 : World}
theorem maxLen_at {w : World} (hM : ∃ m, W0.cell? ⟨0, 0, none⟩ = some (.int .i64 m)) (hold : ∀ k, k < W0.heap.size → w.heap[k]? = W0.heap[k]?) : ∃ m, w.cell? ⟨0, 0, none⟩ = some (.int .i64 m) := by
  obtain ⟨m, hm⟩ := hM
  have hlt : 0 < W0.heap.size := by
    by_cases h : 0 < W0.heap.size
    · exact h
    · have : W0.heap[0]? = none := by rw [Array.getElem?_eq_none]; omega
      unfold World.cell? at hm
      simp [this] at hm
  exact ⟨m, by rw [World.cell?_of_block (w := W0) (hold 0 hlt)]; exact hm⟩

theorem idxB_pure (hM : ∃ m, W0.cell? ⟨0, 0, none⟩ = some (.int .i64 m)) : PureDec Tryd.prog W0 22 [some 1, some 1] gIdxB := by
  intro ds v h
  unfold gIdxB at h
  split at h
  · rename_i n cs m cs'
    split at h
    · rename_i l s hl hs
      obtain ⟨hc, h⟩ := cond_some' h
      cases h
      simp only [Bool.and_eq_true] at hc
      obtain ⟨h1, h2, h3⟩ := hc
      have h1 := Nat.le_of_ble_eq_true h1
      have h2 := Nat.le_of_ble_eq_true h2
      have h3 := Nat.le_of_ble_eq_true h3
      refine ⟨rfl, fun w args' hold hsz hd => ?_⟩
      obtain rfl := byteCells_eq hl
      obtain rfl := byteCells_eq hs
      obtain ⟨x, y, rfl, hx, hy⟩ := decAll_two hd
      obtain ⟨m0, hm⟩ := maxLen_at hM hold
      obtain ⟨rfl, hx⟩ := dec_cells hx
      obtain ⟨rfl, hy⟩ := dec_cells hy
      rcases hy with ⟨_, rfl⟩ | ⟨a2, c2, rfl, hcap2, hc2⟩
      · simp at h2
      · rcases hx with ⟨rfl, rfl⟩ | ⟨a1, c1, rfl, hcap1, hc1⟩
        · refine Calls.mono (Tryd.bytes_Index_nil (some a2) s.length c2 w (by omega) (fun e => by omega)) ?_
          rintro e w' ⟨rfl, rfl⟩
          refine ⟨?_, Below.refl _ _⟩
          rw [if_neg (by omega)]
          have : Lib.index [] s = -1 := by
            unfold Lib.index
            cases s with
            | nil => simp at h2
            | cons a b => rfl
          rw [this]
        · refine Calls.mono (Tryd.bytes_Index_at a1 a2 l.length c1 s.length c2 (numsOf l) (numsOf s) m0 w (nums_len l) (nums_len s) (nums_in l) (nums_in s) hc1 hc2 hcap1 (by omega) (by omega) hm) ?_
          rintro e w' ⟨rfl, q, rfl⟩
          rw [nums_bytes, nums_bytes]
          refine ⟨rfl, ⟨rfl, rfl, rfl, Nat.le_refl _, fun _ _ => rfl⟩⟩
    · cases h
  · cases h

theorem pre_pure : PureDec Tryd.prog W0 23 [some 1, some 1] gPre := by
  intro ds v h
  unfold gPre at h
  split at h
  · rename_i n cs m cs'
    split at h
    · rename_i l s hl hs
      cases h
      refine ⟨rfl, fun w args' hold hsz hd => ?_⟩
      obtain rfl := byteCells_eq hl
      obtain rfl := byteCells_eq hs
      obtain ⟨x, y, rfl, hx, hy⟩ := decAll_two hd
      obtain ⟨rfl, hx⟩ := dec_cells hx
      obtain ⟨rfl, hy⟩ := dec_cells hy
      have key : ∀ {y : Value} {s : List UInt8}, ((y = .slice none 0 0 ∧ s = []) ∨ ∃ a c, y = .slice (some a) s.length c ∧ s.length ≤ c ∧ ∀ i, i < s.length → w.cell? (a.add i) = some (.int .u8 ((numsOf s).getD i 0))) →
          ∃ p c, y = .slice p s.length c ∧ s.length ≤ c ∧ Lib.BytesIn w p s.length (numsOf s) := by
        intro y s h
        rcases h with ⟨rfl, rfl⟩ | ⟨a, c, rfl, hcap, hc⟩
        · exact ⟨none, 0, rfl, Nat.le_refl _, Lib.BytesIn.nil w none _⟩
        · exact ⟨some a, c, rfl, hcap, Lib.BytesIn.of_cells hc⟩
      obtain ⟨p1, c1, rfl, hcap1, b1⟩ := key hx
      obtain ⟨p2, c2, rfl, _, b2⟩ := key hy
      refine Calls.mono (Tryd.bytes_HasPrefix_all p1 p2 l.length c1 s.length c2 (numsOf l) (numsOf s) w (nums_len l) (nums_len s) hcap1 b1 b2) ?_
      rintro e w' ⟨rfl, rfl⟩
      rw [nums_bytes, nums_bytes]
      exact ⟨rfl, Below.refl _ _⟩
    · cases h
  · cases h

theorem idxS_pure (hM : ∃ m, W0.cell? ⟨0, 0, none⟩ = some (.int .i64 m)) : PureDec Tryd.prog W0 77 [none, none] gIdxS := by
  intro ds v h
  unfold gIdxS at h
  split at h
  · rename_i a b
    obtain ⟨hc, h⟩ := cond_some' h
    cases h
    have hc := Nat.le_of_ble_eq_true hc
    refine ⟨rfl, fun w args' hold hsz hd => ?_⟩
    obtain ⟨x, y, rfl, hx, hy⟩ := decAll_two hd
    cases hx; cases hy
    obtain ⟨m0, hm⟩ := maxLen_at hM hold
    refine Calls.mono (Tryd.strings_Index a b m0 w (by omega) hm) ?_
    rintro e w' ⟨rfl, rfl⟩
    exact ⟨rfl, Below.refl _ _⟩
  · cases h
end
end Go.Mig
