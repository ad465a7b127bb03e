/- A Book that holds two lists of tokens: each looked at for its mark; bits, where there are none. -/
import Derived.Test.YtneekcggbnodnaaGreatDoorBookGrow
namespace Go.Proofs.YtneekcggbnodnaaGreatDoor
open Go Go.RowKit Go.Lib
set_option linter.unusedSimpArgs false
set_option linter.unusedVariables false

theorem bits_nil (b : Nat) (w : World) (n : Int) (hn0 : 0 ≤ n) (hn : n < 64) (h : w.cell? ⟨b, 1, none⟩ = some (.slice none 0 0)) : Calls Tryz.prog 79 #[.pointer (some ⟨b, 0, none⟩), .int .u64 n] w fun e w' => e = .returned (.bool true) ∧ w = w' := by
  go_enter Tryz.func79, Tryz.ntmps79
  go_wp2
  go_loop [19] (fun i => i = .int .i64 0) (fun _ => 0)
  case atStart => rfl
  case round =>
    subst hrel
    go_wp2
    go_loop [44] (fun i => i = .int .i64 0) (fun _ => 0)
    case atStart => rfl
    case round =>
      subst hrel
      go_wp2
      go_loop [77] (fun i => i = .int .i64 0) (fun _ => 0)
      case atStart => rfl
      case round =>
        subst hrel
        go_wp2
        go_ret
        exact ⟨rfl, rfl⟩
set_option maxHeartbeats 4000000 in
set_option maxRecDepth 100000 in
theorem look_any (B b g cap : Nat) (V : Nat → Value) (L : Nat → List Tk) (w : World) (h : Two B b g cap V L w) (hL : ∀ i, i < 2 → (L i).length ≤ 1000003) (hM : ∀ i, i < 2 → ∀ j (hj : j < (L i).length), (L i)[j] = markT i) :
    Calls Tryz.prog 84 #[.pointer (some ⟨b, 0, none⟩)] w fun e w' => e = .returned (.bool true) ∧ Below w.heap.size w w' := by
  have c6 := h.book
  have HT := Lib.hid h
  have HL := Lib.hid hL
  have HM := Lib.hid hM
  clear h hL hM
  have hrel0 : Hid (Below w.heap.size w w) := Below.refl _ _
  go_enter Tryz.func84, Tryz.ntmps84
  go_wp2_with fail
  go_loopw [12] (fun i wr => ∃ k : Nat, i = .int .i64 k ∧ k ≤ 2 ∧ Hid (Below w.heap.size w wr)) (fun i _ => 2 - (intOf i).toNat)
  case atStart => exact ⟨0, rfl, by omega, hrel0⟩
  case round =>
    obtain ⟨k, rfl, hk, hr⟩ := hrel
    by_cases hlt : k < 2
    · have hll := HL.out k hlt
      have HTr := Lib.hid (HT.out.below hr.out)
      obtain ⟨q0, q1, _⟩ := HTr.out.held k hlt
      obtain ⟨a, c, hV⟩ := (HTr.out.tk k hlt).form
      rw [hV] at q0
      have m1 : (0 : Int) ≤ (k : Int) := by omega
      have m2 : (k : Int) < 2 := by omega
      have HV := Lib.hid hV
      clear hV c6
      go_wp2_with fail
      obtain ⟨W, hW⟩ : ∃ W, W = wr.alloc (.cells #[.slice a (L k).length c, .int .i64 k] 90) := ⟨_, rfl⟩
      rw [← hW]
      have hsz : W.heap.size = wr.heap.size + 1 := by rw [hW]; simp
      have hlast : W.heap[wr.heap.size]? = some (.cells #[.slice a (L k).length c, .int .i64 k] 90 (0, 0)) := by rw [hW]; exact heap_alloc_new wr _
      have hbW : Below w.heap.size w W := by rw [hW]; exact hr.out.alloc hr.out.size _
      have HTW : Hid (Two B b g cap V L W) := HT.out.below hbW
      generalize hp : wr.heap.size = p at hsz hlast ⊢
      have HLAST := Lib.hid hlast
      have HBW := Lib.hid hbW
      have HSZ := Lib.hid hsz
      clear hW hlast hbW hsz q0 q1 HTr hr hp
      go_loopw [19] (fun i wi => ∃ j : Nat, i = .int .i64 j ∧ j ≤ (L k).length ∧ Hid (Below W.heap.size W wi)) (fun i _ => (L k).length - (intOf i).toNat)
      case atStart => exact ⟨0, rfl, by omega, Below.refl _ _⟩
      case round =>
        obtain ⟨j, rfl, hj, hri⟩ := hrel
        by_cases hlj : j < (L k).length
        · have HTi := Lib.hid (HTW.out.below hri.out)
          obtain ⟨gk, ck, hv, hBg, hgk, hc⟩ := (HTi.out.tk k hlt).cells (by omega)
          have q := HV.out
          rw [hv] at q
          injection q with q1 _ q2
          subst q1 q2
          have b0 := (hc j hlj).c0
          have b1 := (hc j hlj).c1
          have b2 := (hc j hlj).c2
          have b3 := (hc j hlj).c3
          rw [HM.out k hlt j hlj] at b0 b1 b2 b3
          simp only [markT] at b0 b1 b2 b3
          have hli := (hri.out.block p (by have := HSZ.out; omega)).trans HLAST.out
          have d1 : wr.cell? ⟨p, 1, none⟩ = some (.int .i64 k) := by rw [Lib.cell_of_heap hli]; rfl
          have hplt : p < wr.heap.size := by have := hri.out.size; have := HSZ.out; omega
          have I := is_any k (by omega)
          simp only [markV] at I
          have HI := Lib.hid I
          have n1 : (0 : Int) ≤ (j : Int) := by omega
          have n2 : (j : Int) < ((L k).length : Int) := by omega
          clear I hli hc hv hBg HTi
          go_wp2_with fail
          refine (HI.out _).mono ?_
          rintro e w3 ⟨rfl, hb3⟩
          have HB3 : Hid (Below W.heap.size W w3) := by
            refine (hri.out.alloc hri.out.size _).trans (hb3.mono ?_)
            have := hri.out.size
            simp
            omega
          clear hb3
          go_wp2_with fail
          go_roundw
          case rel => exact ⟨j + 1, by go_num, by omega, HB3⟩
          case measure => simp [intOf]; omega
        · go_wp2_with fail
          go_roundw
          case rel => exact ⟨k + 1, by go_num, by omega, HBW.out.trans (hri.out.mono HBW.out.size)⟩
          case measure => simp [intOf]; omega
    · have hk2 : k = 2 := by omega
      subst hk2
      go_wp2_with fail
      go_ret
      exact ⟨rfl, hr.out⟩
end Go.Proofs.YtneekcggbnodnaaGreatDoor
