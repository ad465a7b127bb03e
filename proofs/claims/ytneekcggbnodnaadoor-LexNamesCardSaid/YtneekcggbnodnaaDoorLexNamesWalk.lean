/- The walk of LexNames: it answers true. -/
import Derived.Test.YtneekcggbnodnaaDoorLexAlive
import Derived.Test.YtneekcggbnodnaaDoorLexRefNames
namespace Go.Proofs.YtneekcggbnodnaaDoor
open Go Go.RowKit Go.Lib
set_option linter.unusedVariables false

set_option maxHeartbeats 1000000 in
theorem lexNames_walk (s : ByteArray) (hs : s.size ≤ 140737488355328) (w : World) (hg : Glob w) : Calls Tryd.prog 3 #[.string s] w fun e w' => e = .returned (.bool true) ∧ Below w.heap.size w w' := by
  have c1 := word_any s hs
  have c2 := refWord_any s
  have c3 := name_any s hs
  have c4 := refName_any s hs
  generalize wordB s.data.toList = b at c1 c2
  generalize nameB s.data.toList = d at c3 c4
  have C1 := Lib.hid c1
  have C2 := Lib.hid c2
  have C3 := Lib.hid c3
  have C4 := Lib.hid c4
  have HG := Lib.hid hg
  clear c1 c2 c3 c4 hg
  go_enter Tryd.func3, Tryd.ntmps3
  go_wp2_with (first
    | (go_at_call 8; refine (C1.out _ HG.out).mono ?_; rintro e w' ⟨rfl, rfl⟩)
    | (go_at_call 9; refine (C2.out _).mono ?_; rintro e w' ⟨rfl, rfl⟩)
    | (go_at_call 10; refine (C3.out _ HG.out).mono ?_; rintro e w' ⟨rfl, rfl⟩)
    | (go_at_call 11; refine (C4.out _).mono ?_; rintro e w' ⟨rfl, rfl⟩)
    | (go_at_call 12; refine (alive_any _ HG.out).mono ?_; rintro e w5 ⟨rfl, hb5⟩))
  go_ret
  exact ⟨rfl, hb5⟩
end Go.Proofs.YtneekcggbnodnaaDoor
