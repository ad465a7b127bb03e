/- The walks of layer 1 (word): Text, Parse, Do, the reference's, and what every law asks first (lives): each answers as a plain Lean function; the world has at most new blocks and draws. -/
import Derived.Test.YtgmkhbgnlciooaaDoorBase
import Derived.Test.YtgmkhbgnlciooaaDoorWordRef
import Derived.Test.YtgmkhbgnlciooaaDoorPCalcx
namespace Go.Proofs.YtgmkhbgnlciooaaDoor
open Go Go.RowKit Go.Lib Num

/-- A number that an int64 holds. -/
def In64 (n : Int) : Prop := -9223372036854775808 ≤ n ∧ n ≤ 9223372036854775807

theorem text_any (n : Int) (h : In64 n) (w : World) (hg : Glob w) :
    Calls Tryd.prog 14 #[.int .i64 n] w fun e w' => e = .returned (.string ⟨(Lib.itoa n).toArray⟩) ∧ Below w.heap.size w w' := by
  have HT := Lib.hid hg.1
  have H0 := Lib.hid h
  clear hg h
  go_enter Tryd.func14, Tryd.ntmps14
  go_wp2_with (go_at_call 23; refine (Tryd.strconv_FormatInt_10 n H0.out.1 H0.out.2 _ HT.out).mono ?_; rintro e w' ⟨rfl, k, os, rfl⟩)
  go_ret
  exact ⟨rfl, grow_below w k os⟩

/-- ParseInt, however it ends: the number and nil, or an error that is not nil. -/
def PI (v : Int) (w : World) (e : Ending) (w' : World) : Prop := e = .returned (.tuple #[.int .i64 v, .nilIface]) ∧ Below w.heap.size w w'
def PE (w : World) (e : Ending) (w' : World) : Prop := ∃ (m : Int) (t : TypeId) (p : Value), e = .returned (.tuple #[.int .i64 m, .iface t p]) ∧ Below w.heap.size w w'
theorem pi_ok (s : ByteArray) (hs : s.size ≤ 281474976710656) (v : Int) (h : Lib.parseIntB 64 s.data.toList = .ok v) (w : World) :
    Calls Tryd.prog 22 #[.string s, .int .i64 10, .int .i64 64] w (PI v w) := by
  refine (Tryd.strconv_ParseInt_10_at64_ok s (by omega) v h w).mono ?_
  rintro e w' ⟨rfl, rfl | ⟨t, rfl⟩⟩
  · exact ⟨rfl, Below.refl _ _⟩
  · exact ⟨rfl, bytesW_below w _ t⟩
theorem pi_no (s : ByteArray) (hs : s.size ≤ 281474976710656) (h : ∀ v, Lib.parseIntB 64 s.data.toList ≠ .ok v) (w : World) (hg : Glob w) :
    Calls Tryd.prog 22 #[.string s, .int .i64 10, .int .i64 64] w (PE w) := by
  obtain ⟨_, ⟨t2, p2, h2⟩, ⟨t3, p3, h3⟩⟩ := hg
  by_cases e : Lib.parseIntB 64 s.data.toList = .range
  · refine (Tryd.strconv_ParseInt_10_at64_range_var s hs e t3 p3 w h3).mono ?_
    rintro e w' ⟨N, rfl, _, _, hb⟩
    exact ⟨_, _, _, rfl, hb⟩
  · refine (Tryd.strconv_ParseInt_10_at64_syntax_var s hs h e t2 p2 w h2).mono ?_
    rintro e w' ⟨N, rfl, _, _, hb⟩
    exact ⟨_, _, _, rfl, hb⟩

def PR (r : Int × Int) (w : World) (e : Ending) (w' : World) : Prop := e = .returned (.tuple #[.int .i64 r.1, .int .i64 r.2]) ∧ Below w.heap.size w w'
theorem parse_walk_no (s : ByteArray) (hs : s.size ≤ 281474976710656) (h : ∀ v, Lib.parseIntB 64 s.data.toList ≠ .ok v) (w : World) (hg : Glob w) :
    Calls Tryd.prog 12 #[.string s] w fun e w' => e = .returned (.tuple #[.int .i64 0, .int .i64 12]) ∧ Below w.heap.size w w' := by
  have H := Lib.hid h
  have HG := Lib.hid hg
  clear h hg
  go_enter Tryd.func12, Tryd.ntmps12
  go_wp2_with (go_at_call 22; refine (pi_no s hs H.out _ HG.out).mono ?_; rintro e w' ⟨m, t, p, rfl, hb⟩)
  go_ret2
  exact ⟨rfl, hb⟩
theorem ret_pair {r : Int × Int} {a b : Int} (h : r = (a, b)) : Ending.returned (.tuple #[.int .i64 a, .int .i64 b]) = .returned (.tuple #[.int .i64 r.1, .int .i64 r.2]) := by rw [h]
theorem neg_pair {r : Int × Int} {v : Int} {s : ByteArray} (hr : r = if Lib.itoa v = s.data.toList then (v, 0) else (0, 12)) (h : (!Lib.itoa v == s.toList) = true) : r = (0, 12) := by
  rw [hr, if_neg]
  intro e
  rw [ByteArray.toList_eq, e] at h
  simp at h
theorem pos_pair {r : Int × Int} {v : Int} {s : ByteArray} (hr : r = if Lib.itoa v = s.data.toList then (v, 0) else (0, 12)) (h : (!Lib.itoa v == s.toList) = false) : r = (v, 0) := by
  rw [hr, if_pos]
  rw [ByteArray.toList_eq] at h
  simpa using h
theorem parse_walk_ok (s : ByteArray) (hs : s.size ≤ 281474976710656) (v : Int) (hv : In64 v) (h : Lib.parseIntB 64 s.data.toList = .ok v) (w : World) (hg : Glob w) (r : Int × Int)
    (hr : r = if Lib.itoa v = s.data.toList then (v, 0) else (0, 12)) :
    Calls Tryd.prog 12 #[.string s] w fun e w' => e = .returned (.tuple #[.int .i64 r.1, .int .i64 r.2]) ∧ Below w.heap.size w w' := by
  have H := Lib.hid h
  have HG := Lib.hid hg
  have HV := Lib.hid hv
  have HR := Lib.hid hr
  clear h hg hv hr
  go_enter Tryd.func12, Tryd.ntmps12
  go_wp2_with (go_at_call 22; refine (pi_ok s hs v H.out _).mono ?_; rintro e w' ⟨rfl, hb⟩)
  have HG1 := Lib.hid (HG.out.below hb)
  go_wp2_with (go_at_call 14; refine (text_any v HV.out _ HG1.out).mono ?_; rintro e w2 ⟨rfl, hb2⟩)
  · have h1 : (!Lib.itoa v == s.toList) = true := by assumption
    go_ret2
    exact ⟨ret_pair (neg_pair HR.out h1), Below.step hb hb2⟩
  · have h1 : (!Lib.itoa v == s.toList) = false := by assumption
    go_ret2
    exact ⟨ret_pair (pos_pair HR.out h1), Below.step hb hb2⟩
/-- word.Parse: what 'Num.parse' says. -/
theorem parse_any (s : ByteArray) (hs : s.size ≤ 281474976710656) (w : World) (hg : Glob w) :
    Calls Tryd.prog 12 #[.string s] w (PR (parse s.data.toList) w) := by
  cases e : Lib.parseIntB 64 s.data.toList with
  | ok v =>
    have hb := parseIntB_bounds e
    have hv : In64 v := ⟨by have := hb.1; simpa using this, by have := hb.2; simp at this; omega⟩
    exact parse_walk_ok s hs v hv e w hg _ (by unfold parse; rw [e])
  | range =>
    refine (parse_walk_no s hs (fun v h => by rw [e] at h; cases h) w hg).mono ?_
    rintro _ _ ⟨rfl, hb⟩
    exact ⟨by unfold parse; rw [e], hb⟩
  | _ =>
    refine (parse_walk_no s hs (fun v h => by rw [e] at h; cases h) w hg).mono ?_
    rintro _ _ ⟨rfl, hb⟩
    exact ⟨by unfold parse; rw [e], hb⟩
theorem refParse_any (s : ByteArray) (w : World) : Calls Tryd.prog 13 #[.string s] w (PR (parse s.data.toList) w) :=
  PRef.postluderef01_Parse.calls 100 s _ _ w (PRef.parse_f s 100 (Nat.le_refl _))
theorem refText_any (n : Int) (h : In64 n) (w : World) : Calls Tryd.prog 15 #[.int .i64 n] w fun e w' => e = .returned (.string ⟨(Lib.itoa n).toArray⟩) ∧ Below w.heap.size w w' :=
  PRef.postluderef01_Text.calls 30 n _ w (PRef.text_f n h.1 h.2 30 (Nat.le_refl _))

/-- What Do answers. -/
def arith (c a b : Int) : Int × Int :=
  if c = 1 then (wrap64 (a + b), 0) else if c = 2 then (wrap64 (a - b), 0) else if c = 3 then (wrap64 (a * b), 0)
  else if c = 4 ∨ c = 5 then
    if b = 0 then (0, 4) else if c = 5 then (Int.tmod a b, 0) else if a = -9223372036854775808 ∧ b = -1 then (0, 5) else (wrap64 (Int.tdiv a b), 0)
  else if c = 6 then (if a < b then 1 else 0, 0) else if c = 7 then (if a ≤ b then 1 else 0, 0)
  else if c = 8 then (if a > b then 1 else 0, 0) else if c = 9 then (if a ≥ b then 1 else 0, 0) else (0, 1)
theorem do_f (c a b : Int) : PCalc.word_Do.f 5 c a b = some (arith c a b) := by
  unfold PCalc.word_Do.f arith
  by_cases h1 : c = 1
  · rw [if_pos h1, if_pos h1]
  rw [if_neg h1, if_neg h1]
  by_cases h2 : c = 2
  · rw [if_pos h2, if_pos h2]
  rw [if_neg h2, if_neg h2]
  by_cases h3 : c = 3
  · rw [if_pos h3, if_pos h3]
  rw [if_neg h3, if_neg h3]
  have key : ∀ q : Bool, q = decide (c = 4 ∨ c = 5) → PCalc.word_Do.j0 5 c a b c q = some (if c = 4 ∨ c = 5 then
      if b = 0 then (0, 4) else if c = 5 then (Int.tmod a b, 0) else if a = -9223372036854775808 ∧ b = -1 then (0, 5) else (wrap64 (Int.tdiv a b), 0)
    else if c = 6 then (if a < b then 1 else 0, 0) else if c = 7 then (if a ≤ b then 1 else 0, 0)
    else if c = 8 then (if a > b then 1 else 0, 0) else if c = 9 then (if a ≥ b then 1 else 0, 0) else (0, 1)) := by
    intro q hq
    simp only [PCalc.word_Do.j0, PCalc.word_truth.f]
    by_cases h : c = 4 ∨ c = 5
    · rw [if_pos h, hq, if_pos (decide_eq_true h)]
      repeat' split
      all_goals first | rfl | (exfalso; omega)
    · rw [if_neg h, hq, if_neg (by simpa using h)]
      simp only [decide_eq_true_eq]
      repeat' split
      all_goals first | rfl | (exfalso; omega) | simp_all
  by_cases h4 : c = 4
  · rw [if_pos h4]
    exact key _ (by simp [h4])
  · rw [if_neg h4]
    refine key _ ?_
    by_cases h5 : c = 5
    · simp [h5]
    · simp [h4, h5]
theorem tdiv_neg1 (a : Int) : Int.tdiv a (-1) = -a := by simp
theorem tmod_neg1 (a : Int) : Int.tmod a (-1) = 0 := by simp
theorem refDo_f (c a b : Int) : PCalc.postluderef01_Do.f 5 c a b = some (arith c a b) := by
  unfold PCalc.postluderef01_Do.f arith
  by_cases h1 : c = 1
  · rw [if_pos h1, if_pos h1]
  rw [if_neg h1, if_neg h1]
  by_cases h2 : c = 2
  · rw [if_pos h2, if_pos h2]
  rw [if_neg h2, if_neg h2]
  by_cases h3 : c = 3
  · rw [if_pos h3, if_pos h3]
  rw [if_neg h3, if_neg h3]
  have key : ∀ q : Bool, q = decide (c = 4 ∨ c = 5) → PCalc.postluderef01_Do.j0 5 c a b c q = some (if c = 4 ∨ c = 5 then
      if b = 0 then (0, 4) else if c = 5 then (Int.tmod a b, 0) else if a = -9223372036854775808 ∧ b = -1 then (0, 5) else (wrap64 (Int.tdiv a b), 0)
    else if c = 6 then (if a < b then 1 else 0, 0) else if c = 7 then (if a ≤ b then 1 else 0, 0)
    else if c = 8 then (if a > b then 1 else 0, 0) else if c = 9 then (if a ≥ b then 1 else 0, 0) else (0, 1)) := by
    intro q hq
    simp only [PCalc.postluderef01_Do.j0, PCalc.postluderef01_truth.f, PCalc.postluderef01_parted.f]
    by_cases h : c = 4 ∨ c = 5
    · rw [if_pos h, hq, if_pos (decide_eq_true h)]
      by_cases hb : b = -1
      · subst hb
        rw [if_neg (by omega), if_pos rfl, tdiv_neg1, tmod_neg1]
        repeat' split
        all_goals first | rfl | (exfalso; omega)
      · rw [if_neg hb]
        repeat' split
        all_goals first | rfl | (exfalso; omega)
    · rw [if_neg h, hq, if_neg (by simpa using h)]
      simp only [decide_eq_true_eq]
      repeat' split
      all_goals first | rfl | (exfalso; omega) | simp_all
  by_cases h4 : c = 4
  · rw [if_pos h4]
    exact key _ (by simp [h4])
  · rw [if_neg h4]
    refine key _ ?_
    by_cases h5 : c = 5
    · simp [h5]
    · simp [h4, h5]
theorem do_any (c a b : Int) (w : World) : Calls Tryd.prog 9 #[.int .u8 c, .int .i64 a, .int .i64 b] w fun e w' => e = .returned (.tuple #[.int .i64 (arith c a b).1, .int .i64 (arith c a b).2]) ∧ Below w.heap.size w w' := by
  refine (PCalc.word_Do.calls 5 c a b _ _ w (do_f c a b)).mono ?_
  rintro e w' ⟨rfl, hd⟩
  exact ⟨rfl, hd.below⟩
theorem refDo_any (c a b : Int) (w : World) : Calls Tryd.prog 10 #[.int .u8 c, .int .i64 a, .int .i64 b] w fun e w' => e = .returned (.tuple #[.int .i64 (arith c a b).1, .int .i64 (arith c a b).2]) ∧ Below w.heap.size w w' := by
  refine (PCalc.postluderef01_Do.calls 5 c a b _ _ w (refDo_f c a b)).mono ?_
  rintro e w' ⟨rfl, hd⟩
  exact ⟨rfl, hd.below⟩
end Go.Proofs.YtgmkhbgnlciooaaDoor
