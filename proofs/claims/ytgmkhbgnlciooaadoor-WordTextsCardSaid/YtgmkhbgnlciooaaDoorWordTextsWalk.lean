/- The walk of WordTexts: it answers true. -/
import Derived.Test.YtgmkhbgnlciooaaDoorWordLives
namespace Go.Proofs.YtgmkhbgnlciooaaDoor
open Go Go.RowKit Go.Lib Num

theorem wordTexts_walk (n : Int) (s : ByteArray) (hn : In64 n) (hs : s.size ≤ 281474976710656) (w : World) (hg : Glob w) : Calls Tryd.prog 4 #[.int .i64 n, .string s] w fun e w' => e = .returned (.bool true) ∧ Below w.heap.size w w' := by
  have HG := Lib.hid hg
  have HN := Lib.hid hn
  clear hg hn
  have d1 := parse_any s hs
  have d2 := refParse_any s
  have d3 := text_any n HN.out
  have d4 := refText_any n HN.out
  generalize parse s.data.toList = r at d1 d2
  generalize Lib.itoa n = l at d3 d4
  have D1 := Lib.hid d1
  have D2 := Lib.hid d2
  have D3 := Lib.hid d3
  have D4 := Lib.hid d4
  clear d1 d2 d3 d4
  by_cases hlong : (s.size : Int) > 262144
  · go_enter Tryd.func4, Tryd.ntmps4
    go_wp2
    go_ret
    exact ⟨rfl, Below.refl _ _⟩
  · go_enter Tryd.func4, Tryd.ntmps4
    go_wp2_with (go_at_call 12; refine (D1.out _ HG.out).mono ?_; rintro e w1 ⟨rfl, hb1⟩)
    have HG1 := Lib.hid (HG.out.below hb1)
    go_wp2_with (go_at_call 13; refine (D2.out _).mono ?_; rintro e w2 ⟨rfl, hb2⟩)
    have HG2 := Lib.hid (HG1.out.below hb2)
    go_wp2_with (go_at_call 14; refine (D3.out _ HG2.out).mono ?_; rintro e w3 ⟨rfl, hb3⟩)
    have HG3 := Lib.hid (HG2.out.below hb3)
    go_wp2_with (go_at_call 15; refine (D4.out _).mono ?_; rintro e w4 ⟨rfl, hb4⟩)
    have HG4 := Lib.hid (HG3.out.below hb4)
    go_wp2_with (go_at_call 11; refine (lives_any _ HG4.out).mono ?_; rintro e w5 ⟨rfl, hb5⟩)
    go_ret
    exact ⟨rfl, Below.step (Below.step (Below.step (Below.step hb1 hb2) hb3) hb4) hb5⟩
end Go.Proofs.YtgmkhbgnlciooaaDoor
