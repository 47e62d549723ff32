/- knows.Store.Holds, as what stands for it in the abstract machine: as many texts as the map has keys. -/
import Derived.Test.YteheaihappcgaaaGreatDoorHoldsZ
import Derived.Test.YteheaihappcgaaaGreatDoorMach1
namespace Go.Mir
open Go Go.RowKit Go.Proofs
noncomputable section

def apartKeys (e : MapEntry) : List MapEntry → Bool
  | [] => true
  | d :: r => (match e.key, d.key with | .string a, .string b => !(bytesEq a.data.toList b.data.toList) | _, _ => false) && (!(Nat.beq e.born d.born) && apartKeys e r)
def freshKeys (clk : Nat) : List MapEntry → Bool
  | [] => true
  | e :: r => (match e.key with | .string s => Nat.ble s.data.toList.length 4000 | _ => false) && (Nat.blt e.born clk && (apartKeys e r && freshKeys clk r))

def hHolds (args : List Value) (s : St) : Option (Value × St) :=
  match args with
  | [.pointer (some a)] => match cellAt s a with
    | some (.map (some r)) => match s.get r with
      | some (.obj (.map es clk)) => bif Nat.ble s.next 1073741823 && (freshKeys clk es.toList && (Nat.ble 1 es.toList.length && Nat.ble es.toList.length 1000)) then some (.slice (some ⟨s.next, 0, none⟩) es.toList.length es.toList.length, s.push .dead) else none
      | _ => none
    | _ => none
  | _ => none

theorem bytesEq_refl : ∀ l, bytesEq l l = true
  | [] => rfl
  | a :: l => by unfold bytesEq; rw [Nat.beq_refl]; exact bytesEq_refl l

theorem apartKeys_spec {e : MapEntry} : ∀ {l : List MapEntry}, apartKeys e l = true → ∀ d ∈ l, d.key ≠ e.key ∧ d.born ≠ e.born
  | [], _, d, h => by cases h
  | x :: r, h, d, hd => by
    unfold apartKeys at h
    simp only [Bool.and_eq_true] at h
    obtain ⟨h1, h2, h3⟩ := h
    rcases List.mem_cons.1 hd with rfl | hd
    · constructor
      · intro he
        rw [he] at h1
        split at h1
        · rename_i a b ha hb
          rw [ha] at hb; cases hb
          rw [bytesEq_refl] at h1; cases h1
        · cases h1
      · intro he; rw [he, Nat.beq_refl] at h2; cases h2
    · exact apartKeys_spec h3 d hd

theorem freshKeys_spec {clk : Nat} : ∀ {l : List MapEntry}, freshKeys clk l = true →
    (∀ e ∈ l, (∃ s : ByteArray, e.key = .string s ∧ s.size ≤ 4000) ∧ e.born < clk) ∧ (l.map (·.born)).Nodup ∧ (l.map (·.key)).Nodup
  | [], _ => ⟨fun e h => (by cases h), .nil, .nil⟩
  | x :: r, h => by
    unfold freshKeys at h
    simp only [Bool.and_eq_true] at h
    obtain ⟨h1, h2, h3, h4⟩ := h
    obtain ⟨k1, k2, k3⟩ := freshKeys_spec h4
    refine ⟨fun e he => ?_, ?_, ?_⟩
    · rcases List.mem_cons.1 he with rfl | he
      · refine ⟨?_, Nat.le_of_ble_eq_true h2⟩
        split at h1
        · rename_i s hs; exact ⟨s, hs, Nat.le_of_ble_eq_true h1⟩
        · cases h1
      · exact k1 e he
    · rw [List.map_cons, List.nodup_cons]
      refine ⟨fun hm => ?_, k2⟩
      obtain ⟨d, hd, e⟩ := List.mem_map.1 hm
      exact (apartKeys_spec h3 d hd).2 e
    · rw [List.map_cons, List.nodup_cons]
      refine ⟨fun hm => ?_, k3⟩
      obtain ⟨d, hd, e⟩ := List.mem_map.1 hm
      exact (apartKeys_spec h3 d hd).1 e

theorem hHolds_kept {S S' : St} {args : List Value} {v : Value} (h : hHolds args S = some (v, S')) : Kept S S' := by
  unfold hHolds at h
  split at h
  · split at h
    · split at h
      · have := cond_some h; cases this; exact .push _ _
      · cases h
    · cases h
  · cases h

section
variable {ρ : Ren} {S S' : St} {w : World}

theorem hHolds_ok (hN : NamesOk Tryz.prog) {args args' : List Value} {v : Value} (h : hHolds args S = some (v, S')) (hR : Rel Tryz.prog ρ S w) (hA : LRel ρ args args') : CallOk Tryz.prog 36 args' w (Post Tryz.prog ρ S w v S') := by
  unfold hHolds at h
  split at h
  · rename_i a
    obtain ⟨x', rfl, hx⟩ := lrel_one hA
    obtain ⟨b, o, p, rfl, hb, rfl⟩ := ptr_inv hx
    split at h
    · rename_i r hcell
      obtain ⟨v', hv', hr'⟩ := cellAt_sim hR hb hcell
      obtain ⟨q, hq, rfl⟩ := map_inv hr'
      split at h
      · rename_i es clk hg
        obtain ⟨es', hw, hl, hh⟩ := hR.mapOf hq hg
        obtain ⟨hc, h⟩ := cond_some' h
        cases h
        simp only [Bool.and_eq_true] at hc
        obtain ⟨c1, c2, c3, c4⟩ := hc
        have c1 := Nat.le_of_ble_eq_true c1
        have c3 := Nat.le_of_ble_eq_true c3
        have c4 := Nat.le_of_ble_eq_true c4
        obtain ⟨k1, k2, k3⟩ := freshKeys_spec c2
        have same : ∀ (f : MapEntry → Value) , (∀ e e' : MapEntry, e.key = e'.key → e.born = e'.born → f e = f e') → es'.toList.map f = es.toList.map f := by
          intro f hf
          apply List.ext_getElem?; intro i
          rw [List.getElem?_map, List.getElem?_map]
          by_cases hi : i < es.toList.length
          · have g1 : es.toList[i]? = some es.toList[i] := List.getElem?_eq_getElem hi
            have g2 : es'.toList[i]? = some (es'.toList[i]'(by omega)) := List.getElem?_eq_getElem (by omega)
            obtain ⟨a1, a2, _⟩ := hh i _ _ g1 g2
            rw [g1, g2]; simp only [Option.map_some]; rw [hf _ _ a1 a2]
          · rw [List.getElem?_eq_none (by omega), List.getElem?_eq_none (by omega)]
        have sameN : es'.toList.map (·.born) = es.toList.map (·.born) := by
          have := same (fun e => .int .i64 (e.born : Int)) (fun e e' _ h => by rw [h])
          have h2 := congrArg (List.map fun v => match v with | .int _ n => n.toNat | _ => 0) this
          simpa [List.map_map, Function.comp_def] using h2
        have sameK : es'.toList.map (·.key) = es.toList.map (·.key) := same (·.key) (fun e e' h _ => h)
        have mem' : ∀ e' ∈ es'.toList, ∃ e ∈ es.toList, e.key = e'.key ∧ e.born = e'.born := by
          intro e' he'
          obtain ⟨i, hi, rfl⟩ := List.mem_iff_getElem.1 he'
          exact ⟨es.toList[i]'(by omega), List.getElem_mem _, (hh i _ _ (List.getElem?_eq_getElem (by omega)) (List.getElem?_eq_getElem hi)).1, (hh i _ _ (List.getElem?_eq_getElem (by omega)) (List.getElem?_eq_getElem hi)).2.1⟩
        have hsz : es'.size = es.toList.length := by rw [hl]; simp
        have hown : w.ownsMap (H := Unit) Tryz.prog 9 (fun _ => some (.lit (.bool true), [])) q.blk es'.size (.map ((es'.toList.map (WideElems.rg Tryz.prog 9 (fun _ => some (.lit (.bool true), [])))).foldr DataW.insert [])) := by
          refine ⟨es', clk, hw, ⟨?_, ⟨?_, ?_, ?_⟩, ?_⟩, Nat.le_refl _, rfl⟩
          · rw [hsz]; unfold maxLen; omega
          · intro x hx
            obtain ⟨e, he, _, e2⟩ := mem' x hx
            rw [← e2]; exact (k1 e he).2
          · rw [sameN]; exact k2
          · rw [sameK]; exact k3
          · intro x hx
            obtain ⟨e, he, e1, _⟩ := mem' x hx
            obtain ⟨⟨s, hs, hs2⟩, _⟩ := k1 e he
            have hmk : s.size ≤ maxLen := by unfold maxLen; omega
            rw [e1] at hs
            refine ⟨(.string s.data.toList, .lit (.bool true)), ?_⟩
            unfold WideElems.rd
            rw [hs, WideMaps.keyOf_string_mk Tryz.underlying9 hmk]
            rfl
        have hsize := hown.size_le
        refine .inl ⟨Tryz.f36, Tryz.func36, rfl, hN _ _ Tryz.func36 rfl, Calls.mono (Tryz.holds_walk p.blk (p.off + o) q.blk _ _ _ w hv' hown (by unfold maxLen; omega) (by omega)) ?_⟩
        rintro e w' ⟨v, ss, rfl, hperm, hrow, hbel⟩
        have hlen : ss.length = es.toList.length := by
          rw [hperm.length_eq]
          simp only [strKeys, List.length_map, length_sorted, Array.length_toList]
          omega
        obtain ⟨_, hrow⟩ := hrow
        rcases hrow with ⟨_, hz⟩ | ⟨g, cap, cur, rfl, hg1, hg2, hg3, _⟩
        · omega
        · have hg4 : g < w'.heap.size := by
            rw [Array.getElem?_eq_some_iff] at hg2; exact hg2.1
          have hn := hR.none_next
          refine ⟨_, rfl, ρ.add S.next ⟨g, 0, es.toList.length, cap - es.toList.length, 1⟩, ?_, ?_, ?_⟩
          · rw [hlen]
            rw [hlen] at hg3
            have := VRel.slice (ρ := ρ.add S.next ⟨g, 0, es.toList.length, cap - es.toList.length, 1⟩) S.next 0 es.toList.length es.toList.length cap _ (Ren.add_same _ _ _) (.inr ⟨by simp, hg3, by simp; omega⟩)
            simpa using this
          · exact hR.push c1 .dead _ hbel.size hg4 (fun k hk _ => hbel.block k hk) (fun b q y hb _ _ e => by have := (hR.dom b q hb).2; simp only at e; omega) trivial
          · exact Step.push hR c1 .dead _ hbel.size (.inl hg1) (fun k hk _ => hbel.block k hk) hbel.os hbel.tape hbel.output
      · cases h
    · cases h
  · cases h
end
end
end Go.Mir
