/- The walk of WordRing: it answers true. -/
import Derived.Test.YtgmkhbgnlciooaaDoorWordLives
namespace Go.Proofs.YtgmkhbgnlciooaaDoor
open Go Go.RowKit Go.Lib Num

theorem does_any (c a b : Int) (w : World) : Calls Tryd.prog 18 #[.int .u8 c, .int .i64 a, .int .i64 b] w fun e w' => e = .returned (.int .i64 (arith c a b).1) ∧ Below w.heap.size w w' := by
  have d1 := do_any c a b
  generalize arith c a b = r at d1
  have D1 := Lib.hid d1
  clear d1
  go_enter Tryd.func18, Tryd.ntmps18
  go_wp2_with (go_at_call 9; refine (D1.out _).mono ?_; rintro e w1 ⟨rfl, hb1⟩)
  go_ret
  exact ⟨rfl, hb1⟩
theorem sum_any (a b : Int) (w0 w : World) (hb : Below w0.heap.size w0 w) : Calls Tryd.prog 16 #[.int .i64 a, .int .i64 b] w fun e w' => e = .returned (.int .i64 (wrap64 (a + b))) ∧ Below w0.heap.size w0 w' := by
  have d1 := does_any 1 a b
  rw [show arith 1 a b = (wrap64 (a + b), 0) from rfl] at d1
  have D1 := Lib.hid d1
  have HB := Lib.hid hb
  clear d1 hb
  go_enter Tryd.func16, Tryd.ntmps16
  go_wp2_with (go_at_call 18; refine (D1.out _).mono ?_; rintro e w1 ⟨rfl, hb1⟩)
  go_ret
  exact ⟨rfl, Below.step HB.out hb1⟩
theorem times_any (a b : Int) (w0 w : World) (hb : Below w0.heap.size w0 w) : Calls Tryd.prog 17 #[.int .i64 a, .int .i64 b] w fun e w' => e = .returned (.int .i64 (wrap64 (a * b))) ∧ Below w0.heap.size w0 w' := by
  have d1 := does_any 3 a b
  rw [show arith 3 a b = (wrap64 (a * b), 0) from rfl] at d1
  have D1 := Lib.hid d1
  have HB := Lib.hid hb
  clear d1 hb
  go_enter Tryd.func17, Tryd.ntmps17
  go_wp2_with (go_at_call 18; refine (D1.out _).mono ?_; rintro e w1 ⟨rfl, hb1⟩)
  go_ret
  exact ⟨rfl, Below.step HB.out hb1⟩
theorem less_any (a b : Int) (w0 w : World) (hb : Below w0.heap.size w0 w) : Calls Tryd.prog 18 #[.int .u8 2, .int .i64 a, .int .i64 b] w fun e w' => e = .returned (.int .i64 (wrap64 (a - b))) ∧ Below w0.heap.size w0 w' := by
  refine (does_any 2 a b w).mono ?_
  rintro e w' ⟨rfl, h⟩
  exact ⟨rfl, Below.step hb h⟩
theorem lives_from (w0 w : World) (hg : Glob w0) (hb : Below w0.heap.size w0 w) : Calls Tryd.prog 11 #[] w fun e w' => e = .returned (.bool true) ∧ Below w0.heap.size w0 w' := by
  refine (lives_any w (hg.below hb)).mono ?_
  rintro e w' ⟨rfl, h⟩
  exact ⟨rfl, Below.step hb h⟩

theorem wrap_mod (x y : Int) : wrap64 x = wrap64 y ↔ (x - y) % 18446744073709551616 = 0 := by unfold wrap64; omega
theorem wrap_sub_dvd (x : Int) : ∃ k, wrap64 x = x + 18446744073709551616 * k := ⟨-((x + 9223372036854775808) / 18446744073709551616), by unfold wrap64; omega⟩
theorem wrap_mul_l (x y : Int) : wrap64 (wrap64 x * y) = wrap64 (x * y) := by
  obtain ⟨k, hk⟩ := wrap_sub_dvd x
  rw [wrap_mod, hk, Int.add_mul, Int.mul_assoc]
  generalize x * y = p
  generalize k * y = q
  omega
theorem wrap_mul_r (x y : Int) : wrap64 (x * wrap64 y) = wrap64 (x * y) := by rw [Int.mul_comm, wrap_mul_l, Int.mul_comm]
theorem wrap_add_l (x y : Int) : wrap64 (wrap64 x + y) = wrap64 (x + y) := by unfold wrap64; omega
theorem wrap_add_r (x y : Int) : wrap64 (x + wrap64 y) = wrap64 (x + y) := by unfold wrap64; omega
theorem wrap_in' {x : Int} (h : In64 x) : wrap64 x = x := by have := h.1; have := h.2; unfold wrap64; omega

def Ring (a b c : Int) : Prop :=
  wrap64 (a + b) = wrap64 (b + a) ∧ wrap64 (a * b) = wrap64 (b * a) ∧ wrap64 (wrap64 (a + b) + c) = wrap64 (a + wrap64 (b + c)) ∧ wrap64 (wrap64 (a * b) * c) = wrap64 (a * wrap64 (b * c)) ∧
  wrap64 (a * wrap64 (b + c)) = wrap64 (wrap64 (a * b) + wrap64 (a * c)) ∧ wrap64 (wrap64 (a + b) - b) = a ∧ wrap64 a = a ∧ wrap64 (a + 0) = a ∧ wrap64 (a * 1) = a
theorem ring (a b c : Int) (ha : In64 a) : Ring a b c := by
  have := ha.1
  have := ha.2
  refine ⟨by rw [Int.add_comm], by rw [Int.mul_comm], by rw [wrap_add_l, wrap_add_r, Int.add_assoc], by rw [wrap_mul_l, wrap_mul_r, Int.mul_assoc], ?_, ?_, wrap_in' ha, by rw [Int.add_zero]; exact wrap_in' ha, by rw [Int.mul_one]; exact wrap_in' ha⟩
  · rw [wrap_mul_r, wrap_add_l, wrap_add_r, Int.mul_add]
  · unfold wrap64; omega

set_option maxHeartbeats 4000000 in
theorem wordRing_walk (a b c : Int) (ha : In64 a) (w : World) (hg : Glob w) : Calls Tryd.prog 7 #[.int .i64 a, .int .i64 b, .int .i64 c] w fun e w' => e = .returned (.bool true) ∧ Below w.heap.size w w' := by
  have HG := Lib.hid hg
  have HR := Lib.hid (ring a b c ha)
  have hb := Below.refl w.heap.size w
  clear hg ha
  go_enter Tryd.func7, Tryd.ntmps7
  go_wp2_with (first
    | (go_at_call 16; refine (sum_any _ _ w _ (by assumption)).mono ?_; clear hb; rintro e w1 ⟨rfl, hb⟩)
    | (go_at_call 17; refine (times_any _ _ w _ (by assumption)).mono ?_; clear hb; rintro e w1 ⟨rfl, hb⟩)
    | (go_at_call 18; refine (less_any _ _ w _ (by assumption)).mono ?_; clear hb; rintro e w1 ⟨rfl, hb⟩)
    | (go_at_call 11; refine (lives_from w _ HG.out (by assumption)).mono ?_; clear hb; rintro e w1 ⟨rfl, hb⟩))
  all_goals first
    | (go_ret; exact ⟨rfl, by assumption⟩)
    | (exfalso
       obtain ⟨f1, f2, f3, f4, f5, f6, f7, f8, f9⟩ := HR.out
       rw [Int.add_comm a b] at f3 f6
       rw [Int.mul_comm a b] at f4 f5
       clear HR HG hb
       simp_all)
end Go.Proofs.YtgmkhbgnlciooaaDoor
