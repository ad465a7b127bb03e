/- The walk of WordBack: it answers true. -/
import Derived.Test.YtgmkhbgnlciooaaDoorWordLives
namespace Go.Proofs.YtgmkhbgnlciooaaDoor
open Go Go.RowKit Go.Lib Num

theorem beq_of {la lb : List UInt8} {a b : Int} (h : la = lb ↔ a = b) : (la == lb) = (a == b) := by
  rw [Bool.eq_iff_iff]
  simpa using h
theorem wordBack_walk (a b : Int) (ha : In64 a) (hb : In64 b) (w : World) (hg : Glob w) : Calls Tryd.prog 6 #[.int .i64 a, .int .i64 b] w fun e w' => e = .returned (.bool true) ∧ Below w.heap.size w w' := by
  have HG := Lib.hid hg
  have t1 := text_any a ha
  have t2 := text_any b hb
  have hp : ∀ w, Glob w → Calls Tryd.prog 12 #[.string ⟨(Lib.itoa a).toArray⟩] w fun e w' => e = .returned (.tuple #[.int .i64 a, .int .i64 0]) ∧ Below w.heap.size w w' := by
    intro w hg
    have hl := PRef.itoa_len ha.1 ha.2
    refine (parse_any ⟨(Lib.itoa a).toArray⟩ (by rw [PRef.size_mk]; omega) w hg).mono ?_
    rintro e w' ⟨rfl, hb⟩
    have e1 : parse (⟨(Lib.itoa a).toArray⟩ : ByteArray).data.toList = (a, 0) := parse_num ha.1 ha.2
    exact ⟨by rw [e1], hb⟩
  have hab : (Lib.itoa a = Lib.itoa b) ↔ a = b := ⟨fun h => itoa_inj ha.1 ha.2 hb.1 hb.2 h, fun h => by rw [h]⟩
  clear hg ha hb
  generalize Lib.itoa a = la at *
  generalize Lib.itoa b = lb at *
  have T1 := Lib.hid t1
  have T2 := Lib.hid t2
  have HP := Lib.hid hp
  have HAB := Lib.hid hab
  clear t1 t2 hp hab
  go_enter Tryd.func6, Tryd.ntmps6
  go_wp2_with (go_at_call 14; refine (T1.out _ HG.out).mono ?_; rintro e w1 ⟨rfl, hb1⟩)
  have HG1 := Lib.hid (HG.out.below hb1)
  go_wp2_with (go_at_call 12; refine (HP.out _ HG1.out).mono ?_; rintro e w2 ⟨rfl, hb2⟩)
  have HG2 := Lib.hid (HG1.out.below hb2)
  go_wp2_with (go_at_call 14; refine (T1.out _ HG2.out).mono ?_; rintro e w3 ⟨rfl, hb3⟩)
  have HG3 := Lib.hid (HG2.out.below hb3)
  go_wp2_with (go_at_call 14; refine (T2.out _ HG3.out).mono ?_; rintro e w4 ⟨rfl, hb4⟩)
  have HG4 := Lib.hid (HG3.out.below hb4)
  go_wp2_with fail
  · go_wp2_with (go_at_call 11; refine (lives_any _ HG4.out).mono ?_; rintro e w5 ⟨rfl, hb5⟩)
    go_ret
    exact ⟨rfl, Below.step (Below.step (Below.step (Below.step hb1 hb2) hb3) hb4) hb5⟩
  · exact absurd (beq_of HAB.out) ‹_›
end Go.Proofs.YtgmkhbgnlciooaaDoor
