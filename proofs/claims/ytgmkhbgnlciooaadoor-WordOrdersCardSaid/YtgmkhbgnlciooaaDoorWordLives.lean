/- The head of every statement of layer 1 (lives): it answers true. -/
import Derived.Test.YtgmkhbgnlciooaaDoorWordWalk
namespace Go.Proofs.YtgmkhbgnlciooaaDoor
open Go Go.RowKit Go.Lib Num

theorem itoa_m45 : Lib.itoa (-45) = [45, 52, 53] := by
  rw [show (-45 : Int) = -((45 : Nat) : Int) from rfl, itoa_neg 45 (by omega), decDigits_two (by omega) (by omega)]
  rfl
def m45 : ByteArray := ⟨#[45, 52, 53]⟩
theorem lives_do (w : World) : Calls Tryd.prog 9 #[.int .u8 1, .int .i64 2, .int .i64 3] w fun e w' => e = .returned (.tuple #[.int .i64 5, .int .i64 0]) ∧ Below w.heap.size w w' := by
  have e1 : arith 1 2 3 = (5, 0) := by simp [arith, wrap64]
  have := do_any 1 2 3 w
  rw [e1] at this
  exact this
theorem lives_parse (w : World) (hg : Glob w) : Calls Tryd.prog 12 #[.string ⟨#[45, 52, 53]⟩] w fun e w' => e = .returned (.tuple #[.int .i64 (-45), .int .i64 0]) ∧ Below w.heap.size w w' := by
  refine (parse_any m45 (by decide) w hg).mono ?_
  rintro e w' ⟨rfl, hb⟩
  have e1 : parse m45.data.toList = (-45, 0) := by
    have := parse_num (v := -45) (by omega) (by omega)
    rw [itoa_m45] at this
    exact this
  exact ⟨by rw [e1], hb⟩
theorem lives_text (w : World) (hg : Glob w) : Calls Tryd.prog 14 #[.int .i64 (-45)] w fun e w' => e = .returned (.string ⟨#[45, 52, 53]⟩) ∧ Below w.heap.size w w' := by
  refine (text_any (-45) ⟨by omega, by omega⟩ w hg).mono ?_
  rintro e w' ⟨rfl, hb⟩
  exact ⟨by rw [itoa_m45], hb⟩
theorem lives_any (w : World) (hg : Glob w) : Calls Tryd.prog 11 #[] w fun e w' => e = .returned (.bool true) ∧ Below w.heap.size w w' := by
  have HG := Lib.hid hg
  clear hg
  go_enter Tryd.func11, Tryd.ntmps11
  go_wp2_with (go_at_call 9; refine (lives_do _).mono ?_; rintro e w1 ⟨rfl, hb1⟩)
  have HG1 := Lib.hid (HG.out.below hb1)
  go_wp2_with (go_at_call 12; refine (lives_parse _ HG1.out).mono ?_; rintro e w2 ⟨rfl, hb2⟩)
  have HG2 := Lib.hid (HG1.out.below hb2)
  go_wp2_with (go_at_call 14; refine (lives_text _ HG2.out).mono ?_; rintro e w3 ⟨rfl, hb3⟩)
  go_ret
  exact ⟨rfl, Below.step (Below.step hb1 hb2) hb3⟩
end Go.Proofs.YtgmkhbgnlciooaaDoor
