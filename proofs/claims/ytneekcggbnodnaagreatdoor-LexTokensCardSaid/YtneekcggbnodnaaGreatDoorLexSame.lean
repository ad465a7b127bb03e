/- SameTokens at two lists that read the same. -/
import Derived.Test.YtneekcggbnodnaaGreatDoorLexAlive
namespace Go.Proofs.YtneekcggbnodnaaGreatDoor
open Go Go.RowKit Go.Lib
set_option linter.unusedSimpArgs false
set_option linter.unusedVariables false

set_option maxHeartbeats 2000000 in
set_option maxRecDepth 100000 in
theorem same_any (B1 B2 : Nat) (v1 v2 : Value) (l : List Tk) (w : World) (h1 : Toks B1 w v1 l) (h2 : Toks B2 w v2 l) (hl : l.length ≤ 1000000) :
    Calls Tryz.prog 6 #[v1, v2] w fun e w' => e = .returned (.bool true) ∧ ∃ n, w' = w.drewN n := by
  by_cases h0 : 0 < l.length
  · obtain ⟨g1, c1, rfl, _, _, k1⟩ := h1.cells h0
    obtain ⟨g2, c2, rfl, _, _, k2⟩ := h2.cells h0
    have K1 := Lib.hid k1
    have K2 := Lib.hid k2
    clear k1 k2 h1 h2
    go_enter Tryz.func6, Tryz.ntmps6
    go_wp2
    go_loopw [13] (fun i wr => ∃ k n : Nat, k ≤ l.length ∧ i = .int .i64 k ∧ wr = w.drewN n) (fun i _ => l.length - (intOf i).toNat)
    case atStart => exact ⟨0, 0, Nat.zero_le _, rfl, rfl⟩
    case round =>
      obtain ⟨k, n, hk, rfl, rfl⟩ := hrel
      by_cases hlt : k < l.length
      · obtain ⟨a0, a1, a2, a3⟩ := K1.out k hlt
        obtain ⟨b0, b1, b2, b3⟩ := K2.out k hlt
        have m1 : (0 : Int) ≤ (k : Int) := by omega
        have m2 : (k : Int) < (l.length : Int) := by omega
        go_wp2_with fail
        go_quiet (fail)
        go_wp2_with fail
        go_roundw
        case rel => exact ⟨k + 1, _, by omega, by go_num, rfl⟩
        case measure => simp [intOf]; omega
      · go_wp2
        go_ret
        exact ⟨rfl, _, rfl⟩
  · obtain rfl : l = [] := List.eq_nil_of_length_eq_zero (by omega)
    obtain ⟨a1, c1, rfl⟩ := h1.form
    obtain ⟨a2, c2, rfl⟩ := h2.form
    clear h1 h2
    go_enter Tryz.func6, Tryz.ntmps6
    go_wp2
    go_loopw [13] (fun i wr => i = .int .i64 0 ∧ wr = w) (fun i _ => 0)
    case atStart => exact ⟨rfl, rfl⟩
    case round =>
      obtain ⟨rfl, rfl⟩ := hrel
      go_wp2
      go_ret
      exact ⟨rfl, 0, rfl⟩
end Go.Proofs.YtneekcggbnodnaaGreatDoor
