/- The walk of LexQuotes: it answers true. -/
import Derived.Test.YtneekcggbnodnaaDoorLexRefQuote
import Derived.Test.YtneekcggbnodnaaDoorLexAlive
namespace Go.Proofs.YtneekcggbnodnaaDoor
open Go Go.RowKit Go.Lib
set_option linter.unusedSimpArgs false
set_option linter.unusedVariables false

theorem quotes_tok (s Q : ByteArray) (hQ : Q = ⟨(quoteL s.data.toList).toArray⟩) (hs : Q.size ≤ 65536) (w : World) (hg : Glob w) : Calls Tryd.prog 15 #[.string Q] w fun e w' => Below w.heap.size w w' ∧ ∃ g c, e = .returned (.tuple #[.slice (some ⟨g, 0, none⟩) 1 c, .int .i64 0, .int .i64 0]) ∧ TokCells w' g 0 ⟨5, s, 0, 0⟩ := by
  have hl : lexL Q.data.toList = .inr [⟨5, s, 0, 0⟩] := by
    rw [hQ]
    exact lexL_quote s.data.toList
  refine (tokens_any Q (by omega) w hg).mono ?_
  rintro e w' ⟨hb, h⟩
  rw [if_neg (by omega), hl] at h
  obtain ⟨v, rfl, ho⟩ := h
  obtain ⟨g, c, rfl, _, _, hc⟩ := Toks.cells (l := [⟨5, s, 0, 0⟩]) ho (by simp)
  exact ⟨hb, g, c, rfl, hc 0 (by simp)⟩
set_option maxHeartbeats 2000000 in
set_option maxRecDepth 100000 in
theorem lexQuotes_walk (s : ByteArray) (hs : s.size ≤ 35184372088000) (w : World) (hg : Glob w) : Calls Tryd.prog 4 #[.string s] w fun e w' => e = .returned (.bool true) ∧ Below w.heap.size w w' := by
  have Q1 := Lib.hid (quote_any s hs)
  have Q2 := Lib.hid (refQuote_any s hs)
  have T1 := quotes_tok s
  obtain ⟨Q, hQ⟩ : ∃ Q : ByteArray, Q = ⟨(quoteL s.data.toList).toArray⟩ := ⟨_, rfl⟩
  rw [← hQ] at Q1 Q2
  have T2 := T1 Q hQ
  have T3 := Lib.hid T2
  have HG := Lib.hid hg
  have hqs := quoteL_len s.data.toList
  rw [size_of] at hqs
  have hq2 : Q.size = (quoteL s.data.toList).length := by rw [hQ]; simp [ByteArray.size]
  have hq3 : Q.size ≤ 9223372036854775807 := by omega
  clear T1 T2 hg hQ hqs hq2
  by_cases h : 65536 < Q.size
  · have m1 : (65536 : Int) < (Q.size : Int) := by omega
    clear h
    go_enter Tryd.func4, Tryd.ntmps4
    go_wp2_with fail
    refine (Q1.out _).mono ?_
    rintro e w1 ⟨rfl, hb1⟩
    have HG1 := Lib.hid (HG.out.below hb1)
    have HB1 := Lib.hid hb1
    clear hb1
    go_wp2_with fail
    refine (Q2.out _).mono ?_
    rintro e w2 ⟨rfl, hb2⟩
    have HG2 := Lib.hid (HG1.out.below hb2)
    have HB2 := Lib.hid (Below.step HB1.out hb2)
    clear hb2
    go_wp2_with (go_at_call 12; refine (alive_any _ HG2.out).mono ?_; rintro e w5 ⟨rfl, hb5⟩)
    go_ret
    exact ⟨rfl, Below.step HB2.out hb5⟩
  · have m1 : (Q.size : Int) ≤ 65536 := by omega
    have H := Lib.hid h
    clear h
    go_enter Tryd.func4, Tryd.ntmps4
    go_wp2_with fail
    refine (Q1.out _).mono ?_
    rintro e w1 ⟨rfl, hb1⟩
    have HG1 := Lib.hid (HG.out.below hb1)
    have HB1 := Lib.hid hb1
    clear hb1
    go_wp2_with fail
    refine (Q2.out _).mono ?_
    rintro e w2 ⟨rfl, hb2⟩
    have HG2 := Lib.hid (HG1.out.below hb2)
    have HB2 := Lib.hid (Below.step HB1.out hb2)
    clear hb2
    go_wp2_with fail
    refine (T3.out (by have := H.out; omega) _ HG2.out).mono ?_
    rintro e w3 ⟨hb3, g, c, rfl, k0, k1, k2, k3⟩
    have HG3 := Lib.hid (HG2.out.below hb3)
    have HB3 := Lib.hid (Below.step HB2.out hb3)
    simp only [Nat.zero_mul, Nat.zero_add] at k0 k1 k2 k3
    clear hb3
    go_wp2_with (go_at_call 12; refine (alive_any _ HG3.out).mono ?_; rintro e w5 ⟨rfl, hb5⟩)
    go_ret
    exact ⟨rfl, Below.step HB3.out hb5⟩
end Go.Proofs.YtneekcggbnodnaaDoor
