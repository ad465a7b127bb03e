/- The walk of WordDivides: it answers true. -/
import Derived.Test.YtgmkhbgnlciooaaDoorWordLives
namespace Go.Proofs.YtgmkhbgnlciooaaDoor
open Go Go.RowKit Go.Lib Num

theorem arith4_zero (a : Int) : arith 4 a 0 = (0, 4) ∧ arith 5 a 0 = (0, 4) := by simp [arith]
theorem divides_zero (a : Int) (w : World) (hg : Glob w) : Calls Tryd.prog 5 #[.int .i64 a, .int .i64 0] w fun e w' => e = .returned (.bool true) ∧ Below w.heap.size w w' := by
  have HG := Lib.hid hg
  clear hg
  have d1 := do_any 4 a 0
  have d2 := do_any 5 a 0
  rw [(arith4_zero a).1] at d1
  rw [(arith4_zero a).2] at d2
  have D1 := Lib.hid d1
  have D2 := Lib.hid d2
  clear d1 d2
  go_enter Tryd.func5, Tryd.ntmps5
  go_wp2_with fail
  refine (D1.out _).mono ?_
  rintro e w1 ⟨rfl, hb1⟩
  have HG1 := Lib.hid (HG.out.below hb1)
  go_wp2_with fail
  refine (D2.out _).mono ?_
  rintro e w2 ⟨rfl, hb2⟩
  have HG2 := Lib.hid (HG1.out.below hb2)
  go_wp2_with (go_at_call 11; refine (lives_any _ HG2.out).mono ?_; rintro e w3 ⟨rfl, hb3⟩)
  go_ret
  exact ⟨rfl, Below.step (Below.step hb1 hb2) hb3⟩
theorem arith4_least : arith 4 (-9223372036854775808) (-1) = (0, 5) ∧ arith 5 (-9223372036854775808) (-1) = (0, 0) := by
  constructor
  · simp [arith]
  · simp [arith]
theorem divides_least (w : World) (hg : Glob w) : Calls Tryd.prog 5 #[.int .i64 (-9223372036854775808), .int .i64 (-1)] w fun e w' => e = .returned (.bool true) ∧ Below w.heap.size w w' := by
  have HG := Lib.hid hg
  clear hg
  have d1 := do_any 4 (-9223372036854775808) (-1)
  have d2 := do_any 5 (-9223372036854775808) (-1)
  rw [arith4_least.1] at d1
  rw [arith4_least.2] at d2
  have D1 := Lib.hid d1
  have D2 := Lib.hid d2
  clear d1 d2
  go_enter Tryd.func5, Tryd.ntmps5
  go_wp2_with fail
  refine (D1.out _).mono ?_
  rintro e w1 ⟨rfl, hb1⟩
  have HG1 := Lib.hid (HG.out.below hb1)
  go_wp2_with fail
  refine (D2.out _).mono ?_
  rintro e w2 ⟨rfl, hb2⟩
  have HG2 := Lib.hid (HG1.out.below hb2)
  go_wp2_with (go_at_call 11; refine (lives_any _ HG2.out).mono ?_; rintro e w3 ⟨rfl, hb3⟩)
  go_ret
  exact ⟨rfl, Below.step (Below.step hb1 hb2) hb3⟩
set_option maxHeartbeats 4000000 in
theorem divides_rest (a b q r : Int) (hf : (r = 0 ∨ (r < 0 ↔ a < 0)) ∧ wrap64 (wrap64 (q * b) + r) = a ∧ (r = 0 → wrap64 (wrap64 (q * b)) = a) ∧ (b ≠ -9223372036854775808 → wrap64 (-b) = -b ∧ (r < b ∧ -b < r ∨ b < r ∧ r < -b))) (h4 : arith 4 a b = (q, 0)) (h5 : arith 5 a b = (r, 0)) (w : World) (hg : Glob w) : Calls Tryd.prog 5 #[.int .i64 a, .int .i64 b] w fun e w' => e = .returned (.bool true) ∧ Below w.heap.size w w' := by
  have HG := Lib.hid hg
  clear hg
  have d1 := do_any 4 a b
  have d2 := do_any 5 a b
  rw [h4] at d1
  rw [h5] at d2
  have D1 := Lib.hid d1
  have D2 := Lib.hid d2
  have HF := Lib.hid hf
  clear d1 d2 h4 h5 hf
  go_enter Tryd.func5, Tryd.ntmps5
  go_wp2_with fail
  refine (D1.out _).mono ?_
  rintro e w1 ⟨rfl, hb1⟩
  have HG1 := Lib.hid (HG.out.below hb1)
  go_wp2_with fail
  refine (D2.out _).mono ?_
  rintro e w2 ⟨rfl, hb2⟩
  have HG2 := Lib.hid (HG1.out.below hb2)
  go_wp2_with fail
  all_goals first
    | (exfalso; obtain ⟨f1, f2, f3, f4⟩ := HF.out; omega)
    | (go_wp2_with (go_at_call 11; refine (lives_any _ HG2.out).mono ?_; rintro e w3 ⟨rfl, hb3⟩)
       go_ret
       exact ⟨rfl, Below.step (Below.step hb1 hb2) hb3⟩)
theorem wrap_in {x : Int} (h : In64 x) : wrap64 x = x := by have := h.1; have := h.2; unfold wrap64; omega
theorem wrap_add (x y : Int) : wrap64 (wrap64 x + y) = wrap64 (x + y) := by unfold wrap64; omega
theorem tdiv_in (a b : Int) (ha : In64 a) (hb : In64 b) (h0 : b ≠ 0) (hm : ¬(a = -9223372036854775808 ∧ b = -1)) : In64 (Int.tdiv a b) := by
  have h1 : (Int.tdiv a b).natAbs = a.natAbs / b.natAbs := Int.natAbs_tdiv a b
  have h2 : a.natAbs / b.natAbs ≤ a.natAbs := Nat.div_le_self _ _
  have := ha.1
  have := ha.2
  have := hb.1
  have := hb.2
  unfold In64
  by_cases hm2 : a = -9223372036854775808
  · subst hm2
    by_cases h3 : b.natAbs = 1
    · have : b = 1 := by omega
      subst this
      simp
    · have : (2 : Nat) ≤ b.natAbs := by omega
      have : (-9223372036854775808 : Int).natAbs / b.natAbs ≤ (-9223372036854775808 : Int).natAbs / 2 := Nat.div_le_div_left this (by omega)
      omega
  · omega
theorem divides_facts (a b : Int) (ha : In64 a) (hb : In64 b) (h0 : b ≠ 0) (hm : ¬(a = -9223372036854775808 ∧ b = -1)) :
    (Int.tmod a b = 0 ∨ (Int.tmod a b < 0 ↔ a < 0)) ∧ wrap64 (wrap64 (wrap64 (Int.tdiv a b) * b) + Int.tmod a b) = a ∧ (Int.tmod a b = 0 → wrap64 (wrap64 (wrap64 (Int.tdiv a b) * b)) = a) ∧
    (b ≠ -9223372036854775808 → wrap64 (-b) = -b ∧ (Int.tmod a b < b ∧ -b < Int.tmod a b ∨ b < Int.tmod a b ∧ Int.tmod a b < -b)) := by
  have hd := tdiv_in a b ha hb h0 hm
  have hsum : Int.tdiv a b * b + Int.tmod a b = a := Int.tdiv_mul_add_tmod a b
  have habs : (Int.tmod a b).natAbs < b.natAbs := by
    rw [Int.natAbs_tmod]
    exact Nat.mod_lt _ (by omega)
  have hsgn : (0 ≤ a → 0 ≤ Int.tmod a b) ∧ (a ≤ 0 → Int.tmod a b ≤ 0) := by
    constructor
    · intro h; exact Int.tmod_nonneg b h
    · intro h
      have := Int.tmod_nonneg (a := -a) b (by omega)
      rw [Int.neg_tmod] at this
      omega
  rw [wrap_in hd]
  refine ⟨by omega, by rw [wrap_add, hsum, wrap_in ha], fun h => ?_, fun h => ?_⟩
  · rw [h, Int.add_zero] at hsum
    rw [hsum, wrap_in ha, wrap_in ha]
  · have := hb.1
    have := hb.2
    refine ⟨by unfold wrap64; omega, by omega⟩
theorem wordDivides_walk (a b : Int) (ha : In64 a) (hb : In64 b) (w : World) (hg : Glob w) : Calls Tryd.prog 5 #[.int .i64 a, .int .i64 b] w fun e w' => e = .returned (.bool true) ∧ Below w.heap.size w w' := by
  by_cases h0 : b = 0
  · subst h0; exact divides_zero a w hg
  by_cases hm : a = -9223372036854775808 ∧ b = -1
  · obtain ⟨rfl, rfl⟩ := hm; exact divides_least w hg
  · refine divides_rest a b _ _ (divides_facts a b ha hb h0 hm) ?_ ?_ w hg
    · simp only [arith]
      rw [if_neg (by decide), if_neg (by decide), if_neg (by decide), if_pos (by decide), if_neg h0, if_neg (by decide), if_neg hm]
    · simp only [arith]
      rw [if_neg (by decide), if_neg (by decide), if_neg (by decide), if_pos (by decide), if_neg h0, if_pos (by decide)]
end Go.Proofs.YtgmkhbgnlciooaaDoor
