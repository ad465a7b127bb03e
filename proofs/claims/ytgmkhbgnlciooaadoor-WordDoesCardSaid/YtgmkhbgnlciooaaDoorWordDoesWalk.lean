/- The walk of WordDoes: it answers true. -/
import Derived.Test.YtgmkhbgnlciooaaDoorWordLives
namespace Go.Proofs.YtgmkhbgnlciooaaDoor
open Go Go.RowKit Go.Lib Num

theorem wordDoes_walk (c a b : Int) (w : World) (hg : Glob w) : Calls Tryd.prog 3 #[.int .u8 c, .int .i64 a, .int .i64 b] w fun e w' => e = .returned (.bool true) ∧ Below w.heap.size w w' := by
  have HG := Lib.hid hg
  clear hg
  have d1 := do_any c a b
  have d2 := refDo_any c a b
  generalize arith c a b = r at d1 d2
  have D1 := Lib.hid d1
  have D2 := Lib.hid d2
  clear d1 d2
  go_enter Tryd.func3, Tryd.ntmps3
  go_wp2_with (go_at_call 9; refine (D1.out _).mono ?_; rintro e w1 ⟨rfl, hb1⟩)
  have HG1 := Lib.hid (HG.out.below hb1)
  go_wp2_with (go_at_call 10; refine (D2.out _).mono ?_; rintro e w2 ⟨rfl, hb2⟩)
  have HG2 := Lib.hid (HG1.out.below hb2)
  go_wp2_with (go_at_call 11; refine (lives_any _ HG2.out).mono ?_; rintro e w3 ⟨rfl, hb3⟩)
  go_ret
  exact ⟨rfl, Below.step (Below.step hb1 hb2) hb3⟩
end Go.Proofs.YtgmkhbgnlciooaaDoor
