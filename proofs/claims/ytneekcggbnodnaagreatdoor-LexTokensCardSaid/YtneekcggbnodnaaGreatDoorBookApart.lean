/- A Book that holds two lists of tokens, in rows of their own: Apart answers true. -/
import Derived.Test.YtneekcggbnodnaaGreatDoorBookLook
namespace Go.Proofs.YtneekcggbnodnaaGreatDoor
open Go Go.RowKit Go.Lib
set_option linter.unusedSimpArgs false
set_option linter.unusedVariables false

theorem Two.nils {B b g cap : Nat} {V : Nat → Value} {L : Nat → List Tk} {w : World} (h : Two B b g cap V L w) : ∀ k, 2 ≤ k → k < 35 → k ≠ 6 → w.cell? ⟨b, k, none⟩ = some (.slice none 0 0) := fun k h1 h2 h3 => h.bk.nils k (by omega) h2 h3
theorem marked (L : Nat → List Tk) (i : Nat) (hi : i < 2) (j : Nat) (hj : j < (grown (filled L 2) 2 i).length) : (grown (filled L 2) 2 i)[j] = markT i := by
  have h1 : ∀ t ∈ grown (filled L 2) 2 i, t = markT i := by
    intro t ht
    simp only [grown, filled, if_pos hi, List.mem_append, List.mem_map, List.mem_replicate] at ht
    rcases ht with ⟨_, _, rfl⟩ | ⟨_, rfl⟩ <;> rfl
  exact h1 _ (List.getElem_mem hj)
theorem marked_len (L : Nat → List Tk) (i : Nat) (hi : i < 2) : (grown (filled L 2) 2 i).length = (L i).length + 3 := by
  simp [grown, filled, hi]
set_option maxHeartbeats 40000000 in
set_option maxRecDepth 100000 in
theorem apart_any (B b g cap : Nat) (V : Nat → Value) (L : Nat → List Tk) (w : World) (hBw : B ≤ w.heap.size) (h : Two B b g cap V L w) (hL : ∀ i, i < 2 → (L i).length ≤ 1000000) :
    Calls Tryz.prog 8 #[.pointer (some ⟨b, 0, none⟩)] w fun e w' => e = .returned (.bool true) ∧ Below B w w' := by
  have N0 := Lib.hid h.nils
  have F := Lib.hid (fill_any B b g cap V L w h hL)
  have HL := Lib.hid hL
  clear h hL
  go_enter Tryz.func8, Tryz.ntmps8
  go_wp2_with (refine (fill_nil b _ N0.out _ ?hf).mono ?_; (case hf => decide); rintro e w' ⟨rfl, rfl⟩)
  refine F.out.mono ?_
  rintro e w1 ⟨rfl, hb1, h1⟩
  have N1 := Lib.hid h1.nils
  have hB1 : Hid (B ≤ w1.heap.size) := Nat.le_trans hBw hb1.size
  have G := Lib.hid (grow_any B b g cap V (filled L 2) w1 hB1.out h1 (fun i hi => by have := HL.out i hi; simp [filled, hi]; omega))
  have HB1 := Lib.hid hb1
  clear hb1 h1 F N0
  go_wp2_with (first
    | (refine (fill_nil b _ N1.out _ ?hf).mono ?_; (case hf => decide); rintro e w' ⟨rfl, rfl⟩)
    | (refine (grow_nil b _ N1.out _ ?hf).mono ?_; (case hf => decide); rintro e w' ⟨rfl, rfl⟩))
  refine G.out.mono ?_
  rintro e w2 ⟨rfl, V2, hb2, hB2, h2⟩
  have N2 := Lib.hid h2.nils
  have K := Lib.hid (look_any B b g cap V2 _ w2 h2 (fun i hi => by rw [marked_len L i hi]; have := HL.out i hi; omega) (marked L))
  have HB2 := Lib.hid (HB1.out.trans hb2)
  have c1 := h2.bk.nils 1 (by decide) (by decide) (by decide)
  have hB2' := Lib.hid hB2
  clear hb2 h2 G N1 HB1 hB2
  go_wp2_with (refine (grow_nil b _ N2.out _ ?hf).mono ?_; (case hf => decide); rintro e w' ⟨rfl, rfl⟩)
  go_loop [3] (fun i => ∃ k : Nat, i = .int .u64 k ∧ k ≤ 8) (fun i => 8 - (intOf i).toNat)
  case atStart => exact ⟨0, rfl, by omega⟩
  case round =>
    obtain ⟨k, rfl, hk⟩ := hrel
    by_cases hlt : k < 8
    · have m2 : (k : Int) < 8 := by omega
      have BT := Lib.hid (bits_nil b w2 k (by omega) (by omega) c1)
      go_wp2_with (refine BT.out.mono ?_; rintro e w' ⟨rfl, rfl⟩)
      go_round
      case rel => exact ⟨k + 1, by go_num, by omega⟩
      case measure => simp [intOf]; omega
    · have hk8 : k = 8 := by omega
      subst hk8
      go_wp2_with (refine (look_nil b _ N2.out _ ?hf).mono ?_; (case hf => decide); rintro e w' ⟨rfl, rfl⟩)
      refine K.out.mono ?_
      rintro e w3 ⟨rfl, hb3⟩
      have N3 : Hid (∀ k, 2 ≤ k → k < 35 → k ≠ 6 → w3.cell? ⟨b, k, none⟩ = some (.slice none 0 0)) := fun k h1 h2 h3 => by
        have hc := N2.out k h1 h2 h3
        exact (hb3.cell (World.block_lt_of_cell? w2 _ hc)).trans hc
      have HB3 := Lib.hid (HB2.out.trans (hb3.mono hB2'.out))
      clear hb3 K N2
      go_wp2_with (refine (look_nil b _ N3.out _ ?hf).mono ?_; (case hf => decide); rintro e w' ⟨rfl, rfl⟩)
      go_ret
      exact ⟨rfl, HB3.out⟩
end Go.Proofs.YtneekcggbnodnaaGreatDoor
