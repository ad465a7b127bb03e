/- number: a row of digits as a token. -/
import Derived.Test.YtneekcggbnodnaaGreatDoorLexPut
import Derived.Test.YtneekcggbnodnaaGreatDoorFormatUint
import Derived.Deep.RegionHeld3
import Derived.BigQuiet
namespace Go.Proofs.YtneekcggbnodnaaGreatDoor
open Go Go.RowKit Go.Lib
set_option linter.unusedSimpArgs false
set_option linter.unusedVariables false

theorem pu_ok (s : ByteArray) (hs : s.size ≤ 281474976710656) (u : Nat) (h : Lib.parseUintB 64 s.data.toList = .ok u) (w : World) :
    Calls Tryz.prog 205 #[.string s, .int .i64 10, .int .i64 64] w fun e w' => e = .returned (.tuple #[.int .u64 u, .nilIface]) ∧ Below w.heap.size w w' := by
  refine (Tryz.strconv_ParseUint_10_at64_ok s (by omega) u h w).mono ?_
  rintro e w' ⟨rfl, rfl | rfl⟩
  · exact ⟨rfl, Below.refl _ _⟩
  · exact ⟨rfl, bytesW_below w _ s⟩
theorem pu_no (s : ByteArray) (hs : s.size ≤ 281474976710656) (h : ∀ u, Lib.parseUintB 64 s.data.toList ≠ .ok u) (w : World) (hg : Glob w) :
    Calls Tryz.prog 205 #[.string s, .int .i64 10, .int .i64 64] w fun e w' => ∃ (z : Int) (t : TypeId) (p : Value), e = .returned (.tuple #[.int .u64 z, .iface t p]) ∧ Below w.heap.size w w' := by
  obtain ⟨t2, p2, h2⟩ := hg.syn
  obtain ⟨t3, p3, h3⟩ := hg.ran
  by_cases e : Lib.parseUintB 64 s.data.toList = .range
  · refine (Tryz.strconv_ParseUint_10_at64_range_var s hs e t3 p3 w h3).mono ?_
    rintro e w' ⟨N, rfl, _, _, hb⟩
    exact ⟨_, _, _, rfl, hb⟩
  · refine (Tryz.strconv_ParseUint_10_at64_syntax_var s hs h e t2 p2 w h2).mono ?_
    rintro e w' ⟨N, rfl, _, _, hb⟩
    exact ⟨_, _, _, rfl, hb⟩

/-- The scanner says that no token begins where it stands. -/
def ScBad (B p : Nat) (line : Int) (w : World) : Prop := ∃ s v l, Sc B p s line v l true w
theorem Sc.below {B p : Nat} {s : ByteArray} {line : Int} {v : Value} {l : List Tk} {bad : Bool} {w w' : World} (h : Sc B p s line v l bad w) (hb : Below w.heap.size w w') : Sc B p s line v l bad w' := by
  exact ⟨h.base, (hb.block p h.lt).trans h.lies, h.own.kept (row := none) ⟨hb.os, hb.tape, hb.output, hb.size, fun k hk _ => hb.block k hk⟩ (by cases hv : v.ownBlock; exact .inl rfl; exact .inr (by simp)), h.ne⟩
theorem Sc.drew {B p : Nat} {s : ByteArray} {line : Int} {v : Value} {l : List Tk} {bad : Bool} {w : World} (h : Sc B p s line v l bad w) : Sc B p s line v l bad w.drew := ⟨h.base, h.lies, h.own, h.ne⟩
/-- x.bad = b. -/
theorem Sc.setBad {B p : Nat} {s : ByteArray} {line : Int} {v : Value} {l : List Tk} {bad : Bool} {w : World} (h : Sc B p s line v l bad w) (b : Bool) : Sc B p s line v l b (w.setCell ⟨p, 3, none⟩ (.bool b)) := by
  refine ⟨h.base, ?_, ownsRow_setCell_other h.own h.ne _, h.ne⟩
  rw [Joins.block_setCell h.lies]
  rfl

/-- What a row of digits is worth as a number token: none, if it is none. -/
def numV (t : List UInt8) : Option Nat := match Lib.parseUintB 64 t with
  | .ok u => if u ≤ 9223372036854775808 ∧ Lib.decDigits u = t then some u else none
  | _ => none

set_option maxHeartbeats 4000000 in
theorem number_ok (B p : Nat) (s : ByteArray) (line : Int) (v : Value) (l : List Tk) (bad : Bool) (w : World) (h : Sc B p s line v l bad w) (hs : s.size ≤ 140737488355328) (hlen : l.length ≤ 1000000) (hBw : B ≤ w.heap.size) (hg : Glob w)
    (u : Nat) (hv : Lib.parseUintB 64 (s.data.toList.take (spanL digitB s.data.toList)) = .ok u) (hu : u ≤ 9223372036854775808) :
    Calls Tryz.prog 122 #[.pointer (some ⟨p, 0, none⟩)] w fun e w' => e = .returned (.tuple #[]) ∧
      (∃ v', Sc B p (s.extract (spanL digitB s.data.toList) s.size) line v' (l ++ [⟨4, s.extract 0 (spanL digitB s.data.toList), wrap64 u, line⟩]) (!decide (Lib.decDigits u = s.data.toList.take (spanL digitB s.data.toList))) w') ∧ Below B w w' := by
  have hn := spanL_le digitB s.data.toList
  have hsp := span_digit s (by omega)
  have hl : s.data.toList.length = s.size := by simp
  rw [hl] at hn
  have hx : (s.extract 0 (spanL digitB s.data.toList)).data.toList = s.data.toList.take (spanL digitB s.data.toList) := by simp
  rw [← hx] at hv ⊢
  generalize spanL digitB s.data.toList = n at *
  have c0 : w.cell? ⟨p, 0, none⟩ = some (.string s) := by rw [Lib.cell_of_heap h.lies]; rfl
  have H := Lib.hid h
  have HV := Lib.hid hv
  have HG := Lib.hid hg
  have HSP := Lib.hid hsp
  have hmn : (0 : Int) ≤ (n : Int) := by omega
  have hmn2 : (n : Int) ≤ (s.size : Int) := by omega
  clear h hv hg hx hsp hl
  go_enter Tryz.func122, Tryz.ntmps122
  go_wp2_with (go_at_call 115; refine (HSP.out _).mono ?_; rintro e w' ⟨rfl, rfl⟩)
  have hx2 : (s.extract 0 n).size ≤ 281474976710656 := by simp; omega
  refine (pu_ok _ hx2 u HV.out _).mono ?_
  rintro e w1 ⟨rfl, hb⟩
  have H1 := Lib.hid (H.out.below hb)
  have HG1 := Lib.hid (HG.out.below hb)
  have HB := Lib.hid hb
  have FU : Hid (∀ W, Below w1.heap.size w1 W → Calls Tryz.prog 206 #[.int .u64 u, .int .i64 10] W fun e w' => e = .returned (.string ⟨(Lib.decDigits u).toArray⟩) ∧ Hid (Below w1.heap.size w1 w') ∧ w'.cell? ⟨p, 0, none⟩ = some (.string s) ∧ w'.cell? ⟨p, 3, none⟩ = some (.bool bad) ∧ w'.frozen? ⟨p, 3, none⟩ = false) := by
    intro W hW
    refine (formatUint u (by omega) W (HG1.out.below hW)).mono ?_
    rintro e w' ⟨rfl, h2⟩
    have h3 := Below.step hW h2
    have h4 := H1.out.below h3
    exact ⟨rfl, h3, by rw [Lib.cell_of_heap h4.lies]; rfl, by rw [Lib.cell_of_heap h4.lies]; rfl, Lib.frozen_of_heap h4.lies 3⟩
  have d0 : w1.cell? ⟨p, 0, none⟩ = some (.string s) := by rw [Lib.cell_of_heap H1.out.lies]; rfl
  have d3 : w1.cell? ⟨p, 3, none⟩ = some (.bool bad) := by rw [Lib.cell_of_heap H1.out.lies]; rfl
  have f3 : w1.frozen? ⟨p, 3, none⟩ = false := Lib.frozen_of_heap H1.out.lies 3
  have hu2 : ¬ ((u : Int) > 9223372036854775808) := by omega
  have hu3 : decide ((u : Int) > 9223372036854775808) = false := decide_eq_false hu2
  clear hb c0 hu2
  go_wp2_with fail
  go_region_held3 (fun w' => w'.cell? ⟨p, 0, none⟩ = some (.string s))
    (first | go_keep | exact k0 | (rw [World.cell?_setCell_other _ _ _ _ (by simp)]; exact k0))
    (first | (go_at_call 206; refine (FU.out _ ?_).mono ?_; (first | exact Below.refl _ _ | exact (Below.refl _ _).drew); rintro e w3 ⟨rfl, hb3, k0, k3, k4⟩))
  have H3 := Lib.hid ((H1.out.below hb3.out).setBad (!Lib.decDigits u == (s.extract 0 n).toList))
  have hsz3 : B ≤ (w3.setCell ⟨p, 3, none⟩ (.bool (!Lib.decDigits u == (s.extract 0 n).toList))).heap.size := by have := hb3.out.size; have := HB.out.size; simp; omega
  have HB3 := Lib.hid (((Below.step HB.out hb3.out).mono hBw).setCell (p := ⟨p, 3, none⟩) H.out.base (.bool (!Lib.decDigits u == (s.extract 0 n).toList)))
  go_wp2_with fail
  refine (put_any B p s line v l _ ⟨4, s.extract 0 n, wrap64 u, 0⟩ n _ H3.out hmn hmn2 hs hlen hsz3).mono ?_
  rintro e w5 ⟨rfl, v5, h5, hb5⟩
  go_wp2
  go_end0
  refine ⟨rfl, ⟨v5, ?_⟩, HB3.out.trans hb5⟩
  have e1 : (!decide (Lib.decDigits u = (s.extract 0 n).data.toList)) = (!Lib.decDigits u == (s.extract 0 n).toList) := by
    rw [ByteArray.toList_eq, Bool.eq_iff_iff]
    simp
  rw [e1]
  exact h5

theorem Sc.isBad {B p : Nat} {s : ByteArray} {line : Int} {v : Value} {l : List Tk} {w : World} (h : Sc B p s line v l true w) : ScBad B p line w := ⟨s, v, l, h⟩
set_option maxHeartbeats 4000000 in
theorem number_big (B p : Nat) (s : ByteArray) (line : Int) (v : Value) (l : List Tk) (bad : Bool) (w : World) (h : Sc B p s line v l bad w) (hs : s.size ≤ 140737488355328) (hlen : l.length ≤ 1000000) (hBw : B ≤ w.heap.size)
    (u : Nat) (hv : Lib.parseUintB 64 (s.data.toList.take (spanL digitB s.data.toList)) = .ok u) (hu : 9223372036854775808 < u) :
    Calls Tryz.prog 122 #[.pointer (some ⟨p, 0, none⟩)] w fun e w' => e = .returned (.tuple #[]) ∧ ScBad B p line w' ∧ Below B w w' := by
  have hn := spanL_le digitB s.data.toList
  have hsp := span_digit s (by omega)
  have hl : s.data.toList.length = s.size := by simp
  rw [hl] at hn
  have hx : (s.extract 0 (spanL digitB s.data.toList)).data.toList = s.data.toList.take (spanL digitB s.data.toList) := by simp
  rw [← hx] at hv
  generalize spanL digitB s.data.toList = n at *
  have c0 : w.cell? ⟨p, 0, none⟩ = some (.string s) := by rw [Lib.cell_of_heap h.lies]; rfl
  have H := Lib.hid h
  have HV := Lib.hid hv
  have HSP := Lib.hid hsp
  have hmn : (0 : Int) ≤ (n : Int) := by omega
  have hmn2 : (n : Int) ≤ (s.size : Int) := by omega
  clear h hv hx hsp hl
  go_enter Tryz.func122, Tryz.ntmps122
  go_wp2_with (go_at_call 115; refine (HSP.out _).mono ?_; rintro e w' ⟨rfl, rfl⟩)
  have hx2 : (s.extract 0 n).size ≤ 281474976710656 := by simp; omega
  refine (pu_ok _ hx2 u HV.out _).mono ?_
  rintro e w1 ⟨rfl, hb⟩
  have H1 := Lib.hid (H.out.below hb)
  have HB := Lib.hid hb
  have d0 : w1.cell? ⟨p, 0, none⟩ = some (.string s) := by rw [Lib.cell_of_heap H1.out.lies]; rfl
  have d3 : w1.cell? ⟨p, 3, none⟩ = some (.bool bad) := by rw [Lib.cell_of_heap H1.out.lies]; rfl
  have f3 : w1.frozen? ⟨p, 3, none⟩ = false := Lib.frozen_of_heap H1.out.lies 3
  have hu3 : decide ((u : Int) > 9223372036854775808) = true := decide_eq_true (by omega)
  clear hb c0 hu
  go_wp2_with fail
  go_region
  have H3 : Hid (Sc B p s line v l true ((w1.setCell ⟨p, 3, none⟩ (.bool true)).drew)) := Lib.hid (H1.out.setBad true).drew
  have hsz3 : B ≤ ((w1.setCell ⟨p, 3, none⟩ (.bool true)).drew).heap.size := by have := HB.out.size; simp; omega
  have HB3 : Hid (Below B w ((w1.setCell ⟨p, 3, none⟩ (.bool true)).drew)) := Lib.hid (((HB.out).mono hBw).setCell (p := ⟨p, 3, none⟩) H.out.base (.bool true)).drew
  go_wp2_with fail
  refine (put_any B p s line v l true ⟨4, s.extract 0 n, wrap64 u, 0⟩ n _ H3.out hmn hmn2 hs hlen hsz3).mono ?_
  rintro e w5 ⟨rfl, v5, h5, hb5⟩
  go_wp2
  go_end0
  exact ⟨rfl, h5.isBad, HB3.out.trans hb5⟩
set_option maxHeartbeats 4000000 in
theorem number_no (B p : Nat) (s : ByteArray) (line : Int) (v : Value) (l : List Tk) (bad : Bool) (w : World) (h : Sc B p s line v l bad w) (hs : s.size ≤ 140737488355328) (hlen : l.length ≤ 1000000) (hBw : B ≤ w.heap.size) (hg : Glob w)
    (hv : ∀ u, Lib.parseUintB 64 (s.data.toList.take (spanL digitB s.data.toList)) ≠ .ok u) :
    Calls Tryz.prog 122 #[.pointer (some ⟨p, 0, none⟩)] w fun e w' => e = .returned (.tuple #[]) ∧ ScBad B p line w' ∧ Below B w w' := by
  have hn := spanL_le digitB s.data.toList
  have hsp := span_digit s (by omega)
  have hl : s.data.toList.length = s.size := by simp
  rw [hl] at hn
  have hx : (s.extract 0 (spanL digitB s.data.toList)).data.toList = s.data.toList.take (spanL digitB s.data.toList) := by simp
  rw [← hx] at hv
  generalize spanL digitB s.data.toList = n at *
  have c0 : w.cell? ⟨p, 0, none⟩ = some (.string s) := by rw [Lib.cell_of_heap h.lies]; rfl
  have H := Lib.hid h
  have HV := Lib.hid hv
  have HG := Lib.hid hg
  have HSP := Lib.hid hsp
  have hmn : (0 : Int) ≤ (n : Int) := by omega
  have hmn2 : (n : Int) ≤ (s.size : Int) := by omega
  clear h hv hx hsp hl hg
  go_enter Tryz.func122, Tryz.ntmps122
  go_wp2_with (go_at_call 115; refine (HSP.out _).mono ?_; rintro e w' ⟨rfl, rfl⟩)
  have hx2 : (s.extract 0 n).size ≤ 281474976710656 := by simp; omega
  refine (pu_no _ hx2 HV.out _ HG.out).mono ?_
  rintro e w1 ⟨z, tz, pz, rfl, hb⟩
  have H1 := Lib.hid (H.out.below hb)
  have HB := Lib.hid hb
  have d0 : w1.cell? ⟨p, 0, none⟩ = some (.string s) := by rw [Lib.cell_of_heap H1.out.lies]; rfl
  have d3 : w1.cell? ⟨p, 3, none⟩ = some (.bool bad) := by rw [Lib.cell_of_heap H1.out.lies]; rfl
  have f3 : w1.frozen? ⟨p, 3, none⟩ = false := Lib.frozen_of_heap H1.out.lies 3
  clear hb c0
  go_wp2_with fail
  go_region
  have H3 : Hid (Sc B p s line v l true ((w1.setCell ⟨p, 3, none⟩ (.bool true)).drew)) := Lib.hid (H1.out.setBad true).drew
  have hsz3 : B ≤ ((w1.setCell ⟨p, 3, none⟩ (.bool true)).drew).heap.size := by have := HB.out.size; simp; omega
  have HB3 : Hid (Below B w ((w1.setCell ⟨p, 3, none⟩ (.bool true)).drew)) := Lib.hid (((HB.out).mono hBw).setCell (p := ⟨p, 3, none⟩) H.out.base (.bool true)).drew
  go_wp2_with fail
  refine (put_any B p s line v l true ⟨4, s.extract 0 n, wrap64 z, 0⟩ n _ H3.out hmn hmn2 hs hlen hsz3).mono ?_
  rintro e w5 ⟨rfl, v5, h5, hb5⟩
  go_wp2
  go_end0
  exact ⟨rfl, h5.isBad, HB3.out.trans hb5⟩

/-- number, where the digits are a number. -/
theorem number_yes (B p : Nat) (s : ByteArray) (line : Int) (v : Value) (l : List Tk) (bad : Bool) (w : World) (h : Sc B p s line v l bad w) (hs : s.size ≤ 140737488355328) (hlen : l.length ≤ 1000000) (hBw : B ≤ w.heap.size) (hg : Glob w)
    (u : Nat) (hu : numV (s.data.toList.take (spanL digitB s.data.toList)) = some u) :
    Calls Tryz.prog 122 #[.pointer (some ⟨p, 0, none⟩)] w fun e w' => e = .returned (.tuple #[]) ∧
      (∃ v', Sc B p (s.extract (spanL digitB s.data.toList) s.size) line v' (l ++ [⟨4, s.extract 0 (spanL digitB s.data.toList), wrap64 u, line⟩]) false w') ∧ Below B w w' := by
  unfold numV at hu
  split at hu
  · rename_i u' hv
    split at hu
    · rename_i hc
      obtain rfl := Option.some.inj hu
      have := number_ok B p s line v l bad w h hs hlen hBw hg _ hv hc.1
      rw [decide_eq_true hc.2] at this
      exact this
    · cases hu
  · cases hu
/-- number, where they are none. -/
theorem number_none (B p : Nat) (s : ByteArray) (line : Int) (v : Value) (l : List Tk) (bad : Bool) (w : World) (h : Sc B p s line v l bad w) (hs : s.size ≤ 140737488355328) (hlen : l.length ≤ 1000000) (hBw : B ≤ w.heap.size) (hg : Glob w)
    (hu : numV (s.data.toList.take (spanL digitB s.data.toList)) = none) :
    Calls Tryz.prog 122 #[.pointer (some ⟨p, 0, none⟩)] w fun e w' => e = .returned (.tuple #[]) ∧ ScBad B p line w' ∧ Below B w w' := by
  unfold numV at hu
  split at hu
  · rename_i u' hv
    split at hu
    · cases hu
    · rename_i hc
      by_cases hb : u' ≤ 9223372036854775808
      · have := number_ok B p s line v l bad w h hs hlen hBw hg _ hv hb
        rw [decide_eq_false (fun e => hc ⟨hb, e⟩)] at this
        refine this.mono ?_
        rintro e w' ⟨rfl, ⟨v', h'⟩, hb'⟩
        exact ⟨rfl, h'.isBad, hb'⟩
      · exact number_big B p s line v l bad w h hs hlen hBw _ hv (by omega)
  · rename_i hv
    exact number_no B p s line v l bad w h hs hlen hBw hg (fun u e => hv u e)
end Go.Proofs.YtneekcggbnodnaaGreatDoor
