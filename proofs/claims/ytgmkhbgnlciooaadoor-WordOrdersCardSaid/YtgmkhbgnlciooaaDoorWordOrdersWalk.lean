/- The walk of WordOrders: it answers true. -/
import Derived.Test.YtgmkhbgnlciooaaDoorWordRingWalk
namespace Go.Proofs.YtgmkhbgnlciooaaDoor
open Go Go.RowKit Go.Lib Num

theorem does_from (c a b : Int) (w0 w : World) (hb : Below w0.heap.size w0 w) : Calls Tryd.prog 18 #[.int .u8 c, .int .i64 a, .int .i64 b] w fun e w' => e = .returned (.int .i64 (arith c a b).1) ∧ Below w0.heap.size w0 w' := by
  refine (does_any c a b w).mono ?_
  rintro e w' ⟨rfl, h⟩
  exact ⟨rfl, Below.step hb h⟩
theorem arith6 (a b : Int) : (arith 6 a b).1 = if a < b then 1 else 0 := rfl
theorem arith7 (a b : Int) : (arith 7 a b).1 = if a ≤ b then 1 else 0 := rfl
theorem arith8 (a b : Int) : (arith 8 a b).1 = if a > b then 1 else 0 := rfl
theorem arith9 (a b : Int) : (arith 9 a b).1 = if a ≥ b then 1 else 0 := rfl

set_option maxHeartbeats 4000000 in
theorem orders_core (a b c l1 l2 l3 l4 l5 l6 l7 : Int) (q : Bool) (hq : (a == b) = q) (h6 : (arith 6 a b).1 = l1) (h8 : (arith 8 a b).1 = l2) (h7 : (arith 7 a b).1 = l3) (h9 : (arith 9 a b).1 = l4) (h8' : (arith 8 b a).1 = l5)
    (hbc : (arith 7 b c).1 = l6) (hac : (arith 7 a c).1 = l7)
    (hf : (l1 = 1 ∧ l2 = 0 ∧ l3 = 1 ∧ l4 = 0 ∧ l5 = 1 ∧ q = false ∨ l1 = 0 ∧ l2 = 0 ∧ l3 = 1 ∧ l4 = 1 ∧ l5 = 0 ∧ q = true ∨ l1 = 0 ∧ l2 = 1 ∧ l3 = 0 ∧ l4 = 1 ∧ l5 = 0 ∧ q = false) ∧ (l6 = 1 ∨ l6 = 0) ∧ (l7 = 1 ∨ l7 = 0) ∧ (l3 = 1 → l6 = 1 → l7 = 1))
    (w : World) (hg : Glob w) : Calls Tryd.prog 8 #[.int .i64 a, .int .i64 b, .int .i64 c] w fun e w' => e = .returned (.bool true) ∧ Below w.heap.size w w' := by
  have HG := Lib.hid hg
  have hb := Below.refl w.heap.size w
  clear hg
  obtain ⟨f1, f2, f3, f4⟩ := hf
  have d6 := does_from 6 a b w
  have d8 := does_from 8 a b w
  have d7 := does_from 7 a b w
  have d9 := does_from 9 a b w
  have d8' := does_from 8 b a w
  have dbc := does_from 7 b c w
  have dac := does_from 7 a c w
  rw [h6] at d6
  rw [h7] at d7
  rw [h8] at d8
  rw [h9] at d9
  rw [h8'] at d8'
  rw [hbc] at dbc
  rw [hac] at dac
  clear h6 h7 h8 h9 h8' hbc hac
  have F4 := Lib.hid f4
  clear f4
  have D6 := Lib.hid d6
  have D7 := Lib.hid d7
  have D8 := Lib.hid d8
  have D9 := Lib.hid d9
  have D8' := Lib.hid d8'
  have DBC := Lib.hid dbc
  have DAC := Lib.hid dac
  clear d6 d7 d8 d9 d8' dbc dac
  rcases f1 with ⟨rfl, rfl, rfl, rfl, rfl, rfl⟩ | ⟨rfl, rfl, rfl, rfl, rfl, rfl⟩ | ⟨rfl, rfl, rfl, rfl, rfl, rfl⟩
  all_goals rcases f2 with rfl | rfl
  all_goals rcases f3 with rfl | rfl
  all_goals first
    | (exfalso; exact absurd (F4.out rfl rfl) (by decide))
    | skip
  all_goals clear F4
  all_goals
    go_enter Tryd.func8, Tryd.ntmps8
    go_wp2_with fail
    refine (D6.out _ hb).mono ?_
    clear hb
    rintro e w1 ⟨rfl, hb⟩
    go_wp2_with fail
    refine (D8.out _ hb).mono ?_
    clear hb
    rintro e w2 ⟨rfl, hb⟩
    go_wp2_with fail
    refine (D7.out _ hb).mono ?_
    clear hb
    rintro e w3 ⟨rfl, hb⟩
    go_wp2_with fail
    refine (D9.out _ hb).mono ?_
    clear hb
    rintro e w4 ⟨rfl, hb⟩
    go_wp2_with fail
    refine (D8'.out _ hb).mono ?_
    clear hb
    rintro e w5 ⟨rfl, hb⟩
    go_wp2_with fail
  all_goals try (refine (DBC.out _ hb).mono ?_; clear hb; rintro e w6 ⟨rfl, hb⟩; go_wp2_with fail)
  all_goals try (refine (DAC.out _ hb).mono ?_; clear hb; rintro e w7 ⟨rfl, hb⟩; go_wp2_with fail)
  all_goals
    refine (lives_from w _ HG.out hb).mono ?_
    clear hb
    rintro e w8 ⟨rfl, hb⟩
    go_wp2
    go_ret
    exact ⟨rfl, hb⟩
theorem wordOrders_walk (a b c : Int) (w : World) (hg : Glob w) : Calls Tryd.prog 8 #[.int .i64 a, .int .i64 b, .int .i64 c] w fun e w' => e = .returned (.bool true) ∧ Below w.heap.size w w' := by
  refine orders_core a b c _ _ _ _ _ _ _ _ rfl rfl rfl rfl rfl rfl rfl rfl ?_ w hg
  rw [arith6, arith7, arith8, arith9, arith8, arith7, arith7]
  refine ⟨?_, by split <;> simp, by split <;> simp, ?_⟩
  · rcases Int.lt_trichotomy a b with h | h | h
    · left
      exact ⟨by rw [if_pos h], by rw [if_neg (by omega)], by rw [if_pos (by omega)], by rw [if_neg (by omega)], by rw [if_pos h], beq_false_of_ne (by omega)⟩
    · right; left
      subst h
      exact ⟨by rw [if_neg (by omega)], by rw [if_neg (by omega)], by rw [if_pos (by omega)], by rw [if_pos (by omega)], by rw [if_neg (by omega)], by simp⟩
    · right; right
      exact ⟨by rw [if_neg (by omega)], by rw [if_pos h], by rw [if_neg (by omega)], by rw [if_pos (by omega)], by rw [if_neg (by omega)], beq_false_of_ne (by omega)⟩
  · intro h1 h2
    split at h1
    · split at h2
      · rw [if_pos (by omega)]
      · cases h2
    · cases h1
end Go.Proofs.YtgmkhbgnlciooaaDoor
