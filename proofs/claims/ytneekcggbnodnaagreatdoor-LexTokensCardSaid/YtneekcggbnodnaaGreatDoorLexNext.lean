/- next: what stands next: blanks, a remark, a token. -/
import Derived.Test.YtneekcggbnodnaaGreatDoorLexText
import Derived.Test.YtneekcggbnodnaaGreatDoorLexPlain
namespace Go.Proofs.YtneekcggbnodnaaGreatDoor
open Go Go.RowKit Go.Lib
set_option linter.unusedSimpArgs false
set_option linter.unusedVariables false

def NextEnd (B p : Nat) (s : ByteArray) (line : Int) (l : List Tk) (st : Step) (w : World) (e : Ending) (w' : World) : Prop :=
  e = .returned (.tuple #[]) ∧ Below B w w' ∧ match st with
    | .bad => ScBad B p line w'
    | .skip n d => ∃ v', Sc B p (s.extract n s.size) (line + d) v' l false w'
    | .tok k t x n => ∃ v', Sc B p (s.extract n s.size) line v' (l ++ [⟨k, ⟨t.toArray⟩, x, line⟩]) false w'
theorem Sc.setS {B p : Nat} {s : ByteArray} {line : Int} {v : Value} {l : List Tk} {bad : Bool} {w : World} (h : Sc B p s line v l bad w) (S : ByteArray) : Sc B p S line v l bad (w.setCell ⟨p, 0, none⟩ (.string S)) := by
  refine ⟨h.base, ?_, ownsRow_setCell_other h.own h.ne _, h.ne⟩
  rw [Joins.block_setCell h.lies]
  rfl
theorem Sc.setLine {B p : Nat} {s : ByteArray} {line : Int} {v : Value} {l : List Tk} {bad : Bool} {w : World} (h : Sc B p s line v l bad w) (L : Int) : Sc B p s L v l bad (w.setCell ⟨p, 1, none⟩ (.int .i64 L)) := by
  refine ⟨h.base, ?_, ownsRow_setCell_other h.own h.ne _, h.ne⟩
  rw [Joins.block_setCell h.lies]
  rfl
theorem byte_ne {c : UInt8} (k : Nat) (hk : k < 256) (h : c ≠ UInt8.ofNat k) : ((c.toNat : Int) == (k : Int)) = false := by
  apply beq_false_of_ne
  intro e
  apply h
  apply UInt8.toNat_inj.1
  rw [UInt8.toNat_ofNat']
  omega
theorem byte_is {c : UInt8} (k : Nat) (hk : k < 256) (h : c = UInt8.ofNat k) : ((c.toNat : Int) == (k : Int)) = true := by
  subst h
  rw [UInt8.toNat_ofNat', Nat.mod_eq_of_lt (by omega)]
  simp
theorem below_setCell {B p : Nat} {w w' : World} (h : Below B w w') (hp : B ≤ p) (i : Nat) (v : Value) : Below B w (w'.setCell ⟨p, i, none⟩ v) := h.setCell (p := ⟨p, i, none⟩) hp v

/-- A line feed. -/
theorem next_feed (B p : Nat) (s : ByteArray) (line : Int) (v : Value) (l : List Tk) (w : World) (h : Sc B p s line v l false w) (hs1 : 0 < s.size) (hs : s.size ≤ 1000000) (hl0 : 0 ≤ line) (hl1 : line ≤ 1000000) (hc : s[0] = 10) :
    Calls Tryz.prog 10 #[.pointer (some ⟨p, 0, none⟩)] w (NextEnd B p s line l (.skip 1 1) w) := by
  have c0 : w.cell? ⟨p, 0, none⟩ = some (.string s) := by rw [Lib.cell_of_heap h.lies]; rfl
  have c1 : w.cell? ⟨p, 1, none⟩ = some (.int .i64 line) := by rw [Lib.cell_of_heap h.lies]; rfl
  have f0 : w.frozen? ⟨p, 0, none⟩ = false := Lib.frozen_of_heap h.lies 0
  have f1 : w.frozen? ⟨p, 1, none⟩ = false := Lib.frozen_of_heap h.lies 1
  have e10 : ((s[0].toNat : Int) == 10) = true := byte_is 10 (by decide) hc
  have H := Lib.hid h
  clear h hc
  go_enter Tryz.func10, Tryz.ntmps10
  go_wp2
  go_end0
  exact ⟨rfl, below_setCell (below_setCell (Below.refl B w) H.out.base _ _) H.out.base _ _, v, (H.out.setLine _).setS _⟩
/-- A blank. -/
theorem next_blank (B p : Nat) (s : ByteArray) (line : Int) (v : Value) (l : List Tk) (w : World) (h : Sc B p s line v l false w) (hs1 : 0 < s.size) (hs : s.size ≤ 1000000) (h10 : s[0] ≠ 10) (hc : s[0] = 32 ∨ s[0] = 9 ∨ s[0] = 13) :
    Calls Tryz.prog 10 #[.pointer (some ⟨p, 0, none⟩)] w (NextEnd B p s line l (.skip 1 0) w) := by
  have c0 : w.cell? ⟨p, 0, none⟩ = some (.string s) := by rw [Lib.cell_of_heap h.lies]; rfl
  have f0 : w.frozen? ⟨p, 0, none⟩ = false := Lib.frozen_of_heap h.lies 0
  have n10 : ((s[0].toNat : Int) == 10) = false := byte_ne 10 (by decide) h10
  have HL : Hid (line + ((0 : Nat) : Int) = line) := by unfold Hid; simp
  have H := Lib.hid h
  clear h h10
  rcases hc with hc | hc | hc
  · have e1 : ((s[0].toNat : Int) == 32) = true := byte_is 32 (by decide) hc
    clear hc
    go_enter Tryz.func10, Tryz.ntmps10
    go_wp2
    go_end0
    exact ⟨rfl, below_setCell (Below.refl B w) H.out.base _ _, v, by rw [HL.out]; exact H.out.setS _⟩
  · have e1 : ((s[0].toNat : Int) == 32) = false := byte_ne 32 (by decide) (by rw [hc]; decide)
    have e2 : ((s[0].toNat : Int) == 9) = true := byte_is 9 (by decide) hc
    clear hc
    go_enter Tryz.func10, Tryz.ntmps10
    go_wp2
    go_end0
    exact ⟨rfl, below_setCell (Below.refl B w) H.out.base _ _, v, by rw [HL.out]; exact H.out.setS _⟩
  · have e1 : ((s[0].toNat : Int) == 32) = false := byte_ne 32 (by decide) (by rw [hc]; decide)
    have e2 : ((s[0].toNat : Int) == 9) = false := byte_ne 9 (by decide) (by rw [hc]; decide)
    have e3 : ((s[0].toNat : Int) == 13) = true := byte_is 13 (by decide) hc
    clear hc
    go_enter Tryz.func10, Tryz.ntmps10
    go_wp2
    go_end0
    exact ⟨rfl, below_setCell (Below.refl B w) H.out.base _ _, v, by rw [HL.out]; exact H.out.setS _⟩
/-- No blank. -/
structure NoBlank (s : ByteArray) (hs1 : 0 < s.size) : Prop where
  n10 : ((s[0].toNat : Int) == 10) = false
  n32 : ((s[0].toNat : Int) == 32) = false
  n9 : ((s[0].toNat : Int) == 9) = false
  n13 : ((s[0].toNat : Int) == 13) = false
theorem noBlank {s : ByteArray} (hs1 : 0 < s.size) (h10 : s[0] ≠ 10) (hc : ¬ (s[0] = 32 ∨ s[0] = 9 ∨ s[0] = 13)) : NoBlank s hs1 := by
  simp only [not_or] at hc
  exact ⟨byte_ne 10 (by decide) h10, byte_ne 32 (by decide) hc.1, byte_ne 9 (by decide) hc.2.1, byte_ne 13 (by decide) hc.2.2⟩
set_option maxHeartbeats 2000000 in
/-- A remark. -/
theorem next_remark (B p : Nat) (s : ByteArray) (line : Int) (v : Value) (l : List Tk) (w : World) (h : Sc B p s line v l false w) (hs1 : 0 < s.size) (hs : s.size ≤ 1000000) (hnb : NoBlank s hs1) (hp : Lib.hasPrefix s.data.toList [47, 47] = true) :
    Calls Tryz.prog 10 #[.pointer (some ⟨p, 0, none⟩)] w (NextEnd B p s line l (.skip (spanL lineB s.data.toList) 0) w) := by
  have c0 : w.cell? ⟨p, 0, none⟩ = some (.string s) := by rw [Lib.cell_of_heap h.lies]; rfl
  have f0 : w.frozen? ⟨p, 0, none⟩ = false := Lib.frozen_of_heap h.lies 0
  obtain ⟨n10, n32, n9, n13⟩ := hnb
  have HL : Hid (line + ((0 : Nat) : Int) = line) := by unfold Hid; simp
  have P1 := Lib.hid (text_pre s ⟨#[47, 47]⟩ true hp)
  have hn := spanL_le lineB s.data.toList
  have hsp := span_line s (by omega)
  have hl : s.data.toList.length = s.size := by simp
  rw [hl] at hn
  generalize spanL lineB s.data.toList = n at *
  have hmn : (0 : Int) ≤ (n : Int) := by omega
  have hmn2 : (n : Int) ≤ (s.size : Int) := by omega
  have H := Lib.hid h
  have HSP := Lib.hid hsp
  clear h hp hsp hl
  go_enter Tryz.func10, Tryz.ntmps10
  go_wp2_with (go_at_call 114; refine (P1.out _).mono ?_; rintro e w' ⟨rfl, rfl⟩)
  go_region_with (go_at_call 115; refine (HSP.out _).mono ?_; rintro e w3 ⟨rfl, rfl⟩)
  all_goals
    go_wp2
    go_end0
    have hb := (Below.refl B w).drew
    exact ⟨rfl, below_setCell hb H.out.base _ _, v, by rw [HL.out]; exact H.out.drew.setS _⟩
set_option maxHeartbeats 2000000 in
/-- What begins with a letter. -/
theorem next_name (B p : Nat) (s : ByteArray) (line : Int) (v : Value) (l : List Tk) (w : World) (h : Sc B p s line v l false w) (hs1 : 0 < s.size) (hs : s.size ≤ 1000000) (hlen : l.length ≤ 1000000) (hBw : B ≤ w.heap.size) (hg : Glob w) (hnb : NoBlank s hs1) (hp : Lib.hasPrefix s.data.toList [47, 47] = false) (hh : headB s[0] = true) :
    Calls Tryz.prog 10 #[.pointer (some ⟨p, 0, none⟩)] w (NextEnd B p s line l (nameStep s.data.toList) w) := by
  have c0 : w.cell? ⟨p, 0, none⟩ = some (.string s) := by rw [Lib.cell_of_heap h.lies]; rfl
  have c3 : w.cell? ⟨p, 3, none⟩ = some (.bool false) := by rw [Lib.cell_of_heap h.lies]; rfl
  have f3 : w.frozen? ⟨p, 3, none⟩ = false := Lib.frozen_of_heap h.lies 3
  have hpw := h.lt
  obtain ⟨n10, n32, n9, n13⟩ := hnb
  have P1 := Lib.hid (text_pre s ⟨#[47, 47]⟩ false hp)
  have P2 := head_any s[0]
  rw [hh] at P2
  have HD := Lib.hid P2
  have hn := spanL_le partB s.data.toList
  have hsp := span_part s (by omega)
  have hl : s.data.toList.length = s.size := by simp
  rw [hl] at hn
  have hx : (s.extract 0 (spanL partB s.data.toList)).data.toList = s.data.toList.take (spanL partB s.data.toList) := by simp
  have hW := word_any (s.extract 0 (spanL partB s.data.toList)) (by simp; omega)
  have hN := name_any (s.extract 0 (spanL partB s.data.toList)) (by simp; omega)
  rw [hx] at hW hN
  have hT : (⟨(s.data.toList.take (spanL partB s.data.toList)).toArray⟩ : ByteArray) = s.extract 0 (spanL partB s.data.toList) := by rw [← hx]
  unfold nameStep
  generalize s.data.toList.take (spanL partB s.data.toList) = t at *
  generalize spanL partB s.data.toList = n at *
  have hmn : (0 : Int) ≤ (n : Int) := by omega
  have hmn2 : (n : Int) ≤ (s.size : Int) := by omega
  have H := Lib.hid h
  have HG := Lib.hid hg
  have HSP := Lib.hid hsp
  have HT := Lib.hid hT
  have hs47 : s.size ≤ 140737488355328 := by omega
  have HS47 := Lib.hid hs47
  have M1 := Lib.hid hmn
  have M2 := Lib.hid hmn2
  have HB := Lib.hid hBw
  have HPW := Lib.hid hpw
  clear h hp hsp hl P2 hh hx hT hg hs47
  have A1 : ∀ (k : Int) (b : Bool), Hid (Sc B p s line v l b ((w.alloc (.cells #[.int .u8 k, .string (s.extract 0 n), .int .i64 0, .int .i64 0] 71)).setCell ⟨p, 3, none⟩ (.bool b))) :=
    fun k b => (H.out.below ((Below.refl _ w).alloc (Nat.le_refl _) _)).setBad b
  have A2 : ∀ (k : Int) (b : Bool), Hid (Below B w ((w.alloc (.cells #[.int .u8 k, .string (s.extract 0 n), .int .i64 0, .int .i64 0] 71)).setCell ⟨p, 3, none⟩ (.bool b))) :=
    fun k b => below_setCell ((Below.refl B w).alloc HB.out _) H.out.base _ _
  have A3 : ∀ (k : Int) (b : Bool), Hid (B ≤ ((w.alloc (.cells #[.int .u8 k, .string (s.extract 0 n), .int .i64 0, .int .i64 0] 71)).setCell ⟨p, 3, none⟩ (.bool b)).heap.size) :=
    fun k b => by unfold Hid; simp; have := HB.out; omega
  have A4 : ∀ (k : Int), Hid (Glob (w.alloc (.cells #[.int .u8 k, .string (s.extract 0 n), .int .i64 0, .int .i64 0] 71))) := fun k => HG.out.below ((Below.refl _ w).alloc (Nat.le_refl _) _)
  have A5 : ∀ (k : Int), (w.alloc (.cells #[.int .u8 k, .string (s.extract 0 n), .int .i64 0, .int .i64 0] 71)).frozen? ⟨p, 3, none⟩ = false := fun k => Lib.frozen_of_heap (H.out.below ((Below.refl _ w).alloc (Nat.le_refl _) _)).lies 3
  have A6 : ∀ (k : Int), (w.alloc (.cells #[.int .u8 k, .string (s.extract 0 n), .int .i64 0, .int .i64 0] 71)).cell? ⟨p, 3, none⟩ = some (.bool false) := fun k => by rw [Lib.cell_of_heap (H.out.below ((Below.refl _ w).alloc (Nat.le_refl _) _)).lies]; rfl
  have A7 : ∀ (k : Int) (b : Bool), ((w.alloc (.cells #[.int .u8 k, .string (s.extract 0 n), .int .i64 0, .int .i64 0] 71)).setCell ⟨p, 3, none⟩ (.bool b)).cell? ⟨w.heap.size, 3, none⟩ = some (.int .i64 0) := fun k b => by
    rw [World.cell?_setCell_other _ _ _ _ (by simp <;> (have := HPW.out; omega)), World.cell?_alloc_new]
    rfl
  rcases hw : wordB t with _ | _
  · rw [hw] at hW
    have HW := Lib.hid hW
    rcases hn' : nameB t with _ | _
    · rw [hn'] at hN
      have HN := Lib.hid hN
      have a1 := A1 1 true
      have a2 := A2 1 true
      have a3 := A3 1 true
      have a4 := A4 1
      have a5 := A5 1
      have a6 := A6 1
      have a7 := A7 1
      clear A1 A2 A3 A4 A5 A6 A7 f3 c3 hW hN hw hn' hpw
      go_enter Tryz.func10, Tryz.ntmps10
      go_wp2_with (first
        | (go_at_call 114; refine (P1.out _).mono ?_; rintro e w' ⟨rfl, rfl⟩)
        | (go_at_call 117; refine (HD.out _).mono ?_; rintro e w' ⟨rfl, rfl⟩)
        | (go_at_call 115; refine (HSP.out _).mono ?_; rintro e w' ⟨rfl, rfl⟩)
        | (go_at_call 119; refine (HW.out _ a4.out).mono ?_; rintro e w' ⟨rfl, rfl⟩)
        | (go_at_call 120; refine (HN.out _ a4.out).mono ?_; rintro e w' ⟨rfl, rfl⟩))
      refine (put_any B p s line v l true ⟨1, s.extract 0 n, 0, 0⟩ n _ a1.out M1.out M2.out HS47.out hlen a3.out).mono ?_
      rintro e w5 ⟨rfl, v5, h5, hb5⟩
      go_wp2
      go_end0
      exact ⟨rfl, a2.out.trans hb5, h5.isBad⟩
    · rw [hn'] at hN
      have HN := Lib.hid hN
      have a1 := A1 1 false
      have a2 := A2 1 false
      have a3 := A3 1 false
      have a4 := A4 1
      have a5 := A5 1
      have a6 := A6 1
      have a7 := A7 1
      clear A1 A2 A3 A4 A5 A6 A7 f3 c3 hW hN hw hn' hpw
      go_enter Tryz.func10, Tryz.ntmps10
      go_wp2_with (first
        | (go_at_call 114; refine (P1.out _).mono ?_; rintro e w' ⟨rfl, rfl⟩)
        | (go_at_call 117; refine (HD.out _).mono ?_; rintro e w' ⟨rfl, rfl⟩)
        | (go_at_call 115; refine (HSP.out _).mono ?_; rintro e w' ⟨rfl, rfl⟩)
        | (go_at_call 119; refine (HW.out _ a4.out).mono ?_; rintro e w' ⟨rfl, rfl⟩)
        | (go_at_call 120; refine (HN.out _ a4.out).mono ?_; rintro e w' ⟨rfl, rfl⟩))
      refine (put_any B p s line v l false ⟨1, s.extract 0 n, 0, 0⟩ n _ a1.out M1.out M2.out HS47.out hlen a3.out).mono ?_
      rintro e w5 ⟨rfl, v5, h5, hb5⟩
      go_wp2
      go_end0
      exact ⟨rfl, a2.out.trans hb5, v5, by rw [HT.out]; exact h5⟩
  · rw [hw] at hW
    have HW := Lib.hid hW
    have a1 := A1 2 false
    have a2 := A2 2 false
    have a3 := A3 2 false
    have a4 := A4 1
    have a5 := A5 2
    have a6 := A6 2
    have a7 := A7 2
    clear A1 A2 A3 A4 A5 A6 A7 f3 c3 hW hN hw hpw
    go_enter Tryz.func10, Tryz.ntmps10
    go_wp2_with (first
      | (go_at_call 114; refine (P1.out _).mono ?_; rintro e w' ⟨rfl, rfl⟩)
      | (go_at_call 117; refine (HD.out _).mono ?_; rintro e w' ⟨rfl, rfl⟩)
      | (go_at_call 115; refine (HSP.out _).mono ?_; rintro e w' ⟨rfl, rfl⟩)
      | (go_at_call 119; refine (HW.out _ a4.out).mono ?_; rintro e w' ⟨rfl, rfl⟩))
    refine (put_any B p s line v l false ⟨2, s.extract 0 n, 0, 0⟩ n _ a1.out M1.out M2.out HS47.out hlen a3.out).mono ?_
    rintro e w5 ⟨rfl, v5, h5, hb5⟩
    go_wp2
    go_end0
    exact ⟨rfl, a2.out.trans hb5, v5, by rw [HT.out]; exact h5⟩
set_option maxHeartbeats 2000000 in
/-- A variable. -/
theorem next_var (B p : Nat) (s : ByteArray) (line : Int) (v : Value) (l : List Tk) (w : World) (h : Sc B p s line v l false w) (hs1 : 0 < s.size) (hs : s.size ≤ 1000000) (hlen : l.length ≤ 1000000) (hBw : B ≤ w.heap.size) (hg : Glob w) (hnb : NoBlank s hs1) (hp : Lib.hasPrefix s.data.toList [47, 47] = false) (hh : headB s[0] = false) (h36 : s[0] = 36) :
    Calls Tryz.prog 10 #[.pointer (some ⟨p, 0, none⟩)] w (NextEnd B p s line l (varStep (s.data.toList.drop 1)) w) := by
  have c0 : w.cell? ⟨p, 0, none⟩ = some (.string s) := by rw [Lib.cell_of_heap h.lies]; rfl
  have c3 : w.cell? ⟨p, 3, none⟩ = some (.bool false) := by rw [Lib.cell_of_heap h.lies]; rfl
  have f3 : w.frozen? ⟨p, 3, none⟩ = false := Lib.frozen_of_heap h.lies 3
  have hpw := h.lt
  obtain ⟨n10, n32, n9, n13⟩ := hnb
  have e36 : ((s[0].toNat : Int) == 36) = true := byte_is 36 (by decide) h36
  have P1 := Lib.hid (text_pre s ⟨#[47, 47]⟩ false hp)
  have P2 := head_any s[0]
  rw [hh] at P2
  have HD := Lib.hid P2
  have hr : (s.extract 1 s.size).data.toList = s.data.toList.drop 1 := by
    simp only [ByteArray.data_extract, Array.toList_extract, List.extract_eq_take_drop]
    exact List.take_of_length_le (by simp)
  have hsp := span_part (s.extract 1 s.size) (by simp; omega)
  rw [hr] at hsp
  have hn := spanL_le partB (s.data.toList.drop 1)
  have hl : s.data.toList.length = s.size := by simp
  rw [List.length_drop, hl] at hn
  have hx : (s.extract 1 (1 + spanL partB (s.data.toList.drop 1))).data.toList = (s.data.toList.drop 1).take (spanL partB (s.data.toList.drop 1)) := by
    simp only [ByteArray.data_extract, Array.toList_extract, List.extract_eq_take_drop]
    rw [Nat.add_sub_cancel_left]
  have hN := name_any (s.extract 1 (1 + spanL partB (s.data.toList.drop 1))) (by simp; omega)
  rw [hx] at hN
  have hT : (⟨((s.data.toList.drop 1).take (spanL partB (s.data.toList.drop 1))).toArray⟩ : ByteArray) = s.extract 1 (1 + spanL partB (s.data.toList.drop 1)) := by rw [← hx]
  unfold varStep
  generalize (s.data.toList.drop 1).take (spanL partB (s.data.toList.drop 1)) = t at *
  generalize spanL partB (s.data.toList.drop 1) = n at *
  have hmn : (0 : Int) ≤ (n : Int) := by omega
  have hmn0 : (1 : Int) ≤ (s.size : Int) := by omega
  have hmn1 : (0 : Int) ≤ 1 + (n : Int) := by omega
  have hmn3 : (1 : Int) ≤ 1 + (n : Int) := by omega
  have hmn2 : 1 + (n : Int) ≤ (s.size : Int) := by omega
  have H := Lib.hid h
  have HG := Lib.hid hg
  have HSP := Lib.hid hsp
  have HT := Lib.hid hT
  have hs47 : s.size ≤ 140737488355328 := by omega
  have HS47 := Lib.hid hs47
  have M1 := Lib.hid hmn1
  have M2 := Lib.hid hmn2
  have HB := Lib.hid hBw
  clear h hp hsp hl P2 hh hx hT hg hs47 h36 hr
  rcases hn' : nameB t with _ | _
  · rw [hn'] at hN
    have HN := Lib.hid hN
    have a1 := Lib.hid (H.out.setBad true)
    have a2 : Hid (Below B w (w.setCell ⟨p, 3, none⟩ (.bool true))) := below_setCell (Below.refl B w) H.out.base _ _
    have a3 : Hid (B ≤ (w.setCell ⟨p, 3, none⟩ (.bool true)).heap.size) := by unfold Hid; simp; exact HB.out
    clear hN hn' hpw
    go_enter Tryz.func10, Tryz.ntmps10
    go_wp2_with (first
      | (go_at_call 114; refine (P1.out _).mono ?_; rintro e w' ⟨rfl, rfl⟩)
      | (go_at_call 117; refine (HD.out _).mono ?_; rintro e w' ⟨rfl, rfl⟩)
      | (go_at_call 115; refine (HSP.out _).mono ?_; rintro e w' ⟨rfl, rfl⟩)
      | (go_at_call 120; refine (HN.out _ HG.out).mono ?_; rintro e w' ⟨rfl, rfl⟩))
    refine (put_any B p s line v l true ⟨3, s.extract 1 (1 + n), 0, 0⟩ (1 + n) _ a1.out M1.out M2.out HS47.out hlen a3.out).mono ?_
    rintro e w5 ⟨rfl, v5, h5, hb5⟩
    go_wp2
    go_end0
    exact ⟨rfl, a2.out.trans hb5, h5.isBad⟩
  · rw [hn'] at hN
    have HN := Lib.hid hN
    have a1 := Lib.hid (H.out.setBad false)
    have a2 : Hid (Below B w (w.setCell ⟨p, 3, none⟩ (.bool false))) := below_setCell (Below.refl B w) H.out.base _ _
    have a3 : Hid (B ≤ (w.setCell ⟨p, 3, none⟩ (.bool false)).heap.size) := by unfold Hid; simp; exact HB.out
    have hk : Hid ((1 + (n : Int)).toNat = 1 + n) := by unfold Hid; omega
    clear hN hn' hpw
    go_enter Tryz.func10, Tryz.ntmps10
    go_wp2_with (first
      | (go_at_call 114; refine (P1.out _).mono ?_; rintro e w' ⟨rfl, rfl⟩)
      | (go_at_call 117; refine (HD.out _).mono ?_; rintro e w' ⟨rfl, rfl⟩)
      | (go_at_call 115; refine (HSP.out _).mono ?_; rintro e w' ⟨rfl, rfl⟩)
      | (go_at_call 120; refine (HN.out _ HG.out).mono ?_; rintro e w' ⟨rfl, rfl⟩))
    refine (put_any B p s line v l false ⟨3, s.extract 1 (1 + n), 0, 0⟩ (1 + n) _ a1.out M1.out M2.out HS47.out hlen a3.out).mono ?_
    rintro e w5 ⟨rfl, v5, h5, hb5⟩
    go_wp2
    go_end0
    rw [hk.out] at h5
    exact ⟨rfl, a2.out.trans hb5, v5, by rw [HT.out]; exact h5⟩
set_option maxHeartbeats 2000000 in
/-- A number. -/
theorem next_number (B p : Nat) (s : ByteArray) (line : Int) (v : Value) (l : List Tk) (w : World) (h : Sc B p s line v l false w) (hs1 : 0 < s.size) (hs : s.size ≤ 1000000) (hlen : l.length ≤ 1000000) (hBw : B ≤ w.heap.size) (hg : Glob w) (hnb : NoBlank s hs1) (hp : Lib.hasPrefix s.data.toList [47, 47] = false) (hh : headB s[0] = false) (h36 : s[0] ≠ 36) (hd : digitB s[0] = true) :
    Calls Tryz.prog 10 #[.pointer (some ⟨p, 0, none⟩)] w (NextEnd B p s line l (numStep s.data.toList) w) := by
  have c0 : w.cell? ⟨p, 0, none⟩ = some (.string s) := by rw [Lib.cell_of_heap h.lies]; rfl
  obtain ⟨n10, n32, n9, n13⟩ := hnb
  have e36 : ((s[0].toNat : Int) == 36) = false := byte_ne 36 (by decide) h36
  have P1 := Lib.hid (text_pre s ⟨#[47, 47]⟩ false hp)
  have P2 := head_any s[0]
  rw [hh] at P2
  have HD := Lib.hid P2
  have hd1 : (48 : Int) ≤ (s[0].toNat : Int) ∧ (s[0].toNat : Int) ≤ 57 := by
    simp only [digitB, decide_eq_true_eq] at hd; omega
  obtain ⟨hd1, hd2⟩ := hd1
  unfold numStep
  rcases hv : numV (s.data.toList.take (spanL digitB s.data.toList)) with _ | u
  · have HN := Lib.hid (number_none B p s line v l false w h (by omega) hlen hBw hg hv)
    clear h hp P2 hh h36 hd hg hv
    go_enter Tryz.func10, Tryz.ntmps10
    go_wp2_with (first
      | (go_at_call 114; refine (P1.out _).mono ?_; rintro e w' ⟨rfl, rfl⟩)
      | (go_at_call 117; refine (HD.out _).mono ?_; rintro e w' ⟨rfl, rfl⟩))
    refine HN.out.mono ?_
    rintro e w5 ⟨rfl, h5, hb5⟩
    go_wp2
    go_end0
    exact ⟨rfl, hb5, h5⟩
  · have hx : (⟨(s.data.toList.take (spanL digitB s.data.toList)).toArray⟩ : ByteArray) = s.extract 0 (spanL digitB s.data.toList) := by
      have : (s.extract 0 (spanL digitB s.data.toList)).data.toList = s.data.toList.take (spanL digitB s.data.toList) := by simp
      rw [← this]
    have HN := Lib.hid (number_yes B p s line v l false w h (by omega) hlen hBw hg u hv)
    have HX := Lib.hid hx
    clear h hp P2 hh h36 hd hg hv hx
    go_enter Tryz.func10, Tryz.ntmps10
    go_wp2_with (first
      | (go_at_call 114; refine (P1.out _).mono ?_; rintro e w' ⟨rfl, rfl⟩)
      | (go_at_call 117; refine (HD.out _).mono ?_; rintro e w' ⟨rfl, rfl⟩))
    refine HN.out.mono ?_
    rintro e w5 ⟨rfl, ⟨v5, h5⟩, hb5⟩
    go_wp2
    go_end0
    exact ⟨rfl, hb5, v5, by rw [HX.out]; exact h5⟩
set_option maxHeartbeats 2000000 in
/-- A text. -/
theorem next_text (B p : Nat) (s : ByteArray) (line : Int) (v : Value) (l : List Tk) (w : World) (h : Sc B p s line v l false w) (hs1 : 0 < s.size) (hs : s.size ≤ 1000000) (hlen : l.length ≤ 1000000) (hBw : B ≤ w.heap.size) (hg : Glob w) (h39 : s[0] = 39) :
    Calls Tryz.prog 10 #[.pointer (some ⟨p, 0, none⟩)] w (NextEnd B p s line l (textStep (s.data.toList.drop 1)) w) := by
  obtain ⟨st, hst⟩ : ∃ st, st = textStep (s.data.toList.drop 1) := ⟨_, rfl⟩
  rw [← hst]
  have c0 : w.cell? ⟨p, 0, none⟩ = some (.string s) := by rw [Lib.cell_of_heap h.lies]; rfl
  have hl : s.data.toList.length = s.size := by simp
  have hcons : s.data.toList = 39 :: s.data.toList.drop 1 := by
    rcases hd : s.data.toList with _ | ⟨c, r⟩
    · rw [hd] at hl; simp at hl; omega
    · have : s[0] = c := by rw [byte_at]; simp [hd]
      rw [h39] at this
      rw [← this]; rfl
  have hp : Lib.hasPrefix s.data.toList [47, 47] = false := by rw [hcons]; exact not_pre (by decide) _
  have b10 : ((s[0].toNat : Int) == 10) = false := by rw [h39]; decide
  have b32 : ((s[0].toNat : Int) == 32) = false := by rw [h39]; decide
  have b9 : ((s[0].toNat : Int) == 9) = false := by rw [h39]; decide
  have b13 : ((s[0].toNat : Int) == 13) = false := by rw [h39]; decide
  have b36 : ((s[0].toNat : Int) == 36) = false := by rw [h39]; decide
  have b39 : ((s[0].toNat : Int) == 39) = true := by rw [h39]; decide
  have b48 : (s[0].toNat : Int) < 48 := by rw [h39]; decide
  have P1 := Lib.hid (text_pre s ⟨#[47, 47]⟩ false hp)
  have P2 := head_any s[0]
  rw [show headB s[0] = false by rw [h39]; decide] at P2
  have HD := Lib.hid P2
  have ht := text_any B p s line v l false w h (by omega) (by omega) hlen hBw hg (s.size + 1) (by omega)
  have hdl : (s.data.toList.drop 1).length + 2 = s.size + 1 := by rw [List.length_drop, hl]; omega
  unfold textStep at hst
  rw [hdl] at hst
  have hq : ∀ o q, textEnd (s.size + 1) [] (s.data.toList.drop 1) = some (o, q) → q.length ≤ s.size ∧ s.size - q.length + 1 = s.size + 1 - q.length := by
    intro o q e
    obtain ⟨u, q', e1, e2, _, _⟩ := textEnd_some _ _ (Nat.le_refl _) _ _ _ _ e
    have := congrArg List.length e1
    rw [List.length_append] at this
    omega
  generalize textEnd (s.size + 1) [] (s.data.toList.drop 1) = T at *
  have HT := Lib.hid ht
  have HQ := Lib.hid hq
  have HST := Lib.hid hst
  clear h hp P2 h39 hg hcons hl ht hdl hq hst
  go_enter Tryz.func10, Tryz.ntmps10
  go_wp2_with (first
    | (go_at_call 114; refine (P1.out _).mono ?_; rintro e w' ⟨rfl, rfl⟩)
    | (go_at_call 117; refine (HD.out _).mono ?_; rintro e w' ⟨rfl, rfl⟩))
  refine HT.out.mono ?_
  rintro e w5 ⟨rfl, hb5, hbad, hok⟩
  have K1 := Lib.hid hbad
  have K2 := Lib.hid hok
  clear hbad hok
  go_wp2
  go_end0
  refine ⟨rfl, hb5, ?_⟩
  rw [HST.out]
  rcases T with _ | ⟨o, q⟩
  · exact K1.out rfl
  · obtain ⟨v', h'⟩ := K2.out o q rfl
    have hk := HQ.out o q rfl
    rw [hk.2] at h'
    exact ⟨v', h'⟩
set_option maxHeartbeats 2000000 in
/-- A sign, or nothing. -/
theorem next_sign (B p : Nat) (s : ByteArray) (line : Int) (v : Value) (l : List Tk) (w : World) (h : Sc B p s line v l false w) (hs1 : 0 < s.size) (hs : s.size ≤ 1000000) (hlen : l.length ≤ 1000000) (hBw : B ≤ w.heap.size) (hg : Glob w) (hnb : NoBlank s hs1) (hp : Lib.hasPrefix s.data.toList [47, 47] = false) (hh : headB s[0] = false) (h36 : s[0] ≠ 36) (hd : digitB s[0] = false) (h39 : s[0] ≠ 39) :
    Calls Tryz.prog 10 #[.pointer (some ⟨p, 0, none⟩)] w (NextEnd B p s line l (signStep s.data.toList) w) := by
  obtain ⟨st, hst⟩ : ∃ st, st = signStep s.data.toList := ⟨_, rfl⟩
  rw [← hst]
  have c0 : w.cell? ⟨p, 0, none⟩ = some (.string s) := by rw [Lib.cell_of_heap h.lies]; rfl
  obtain ⟨n10, n32, n9, n13⟩ := hnb
  have e36 : ((s[0].toNat : Int) == 36) = false := byte_ne 36 (by decide) h36
  have e39 : ((s[0].toNat : Int) == 39) = false := byte_ne 39 (by decide) h39
  have P1 := Lib.hid (text_pre s ⟨#[47, 47]⟩ false hp)
  have P2 := head_any s[0]
  rw [hh] at P2
  have HD := Lib.hid P2
  have hS := sign_any B p s line v l false w h (by omega) hlen hBw hg
  have hx : (s.extract 0 (signN s.data.toList)).data.toList = s.data.toList.take (signN s.data.toList) := by simp
  have hT : (⟨(s.data.toList.take (signN s.data.toList)).toArray⟩ : ByteArray) = s.extract 0 (signN s.data.toList) := by rw [← hx]
  unfold signStep at hst
  generalize s.data.toList.take (signN s.data.toList) = t at *
  generalize signN s.data.toList = n at *
  have HS := Lib.hid hS
  have HT := Lib.hid hT
  have hd' : (s[0].toNat : Int) < 48 ∨ 57 < (s[0].toNat : Int) := by
    simp only [digitB, decide_eq_false_iff_not] at hd; omega
  have HST := Lib.hid hst
  clear h hp P2 hh h36 hd hg h39 hx hT hS hst
  rcases hd' with hd' | hd'
  all_goals
    go_enter Tryz.func10, Tryz.ntmps10
    go_wp2_with (first
      | (go_at_call 114; refine (P1.out _).mono ?_; rintro e w' ⟨rfl, rfl⟩)
      | (go_at_call 117; refine (HD.out _).mono ?_; rintro e w' ⟨rfl, rfl⟩))
    refine HS.out.mono ?_
    rintro e w5 ⟨rfl, hb5, hbad, hok⟩
    have K1 := Lib.hid hbad
    have K2 := Lib.hid hok
    clear hbad hok
    go_wp2
    go_end0
    refine ⟨rfl, hb5, ?_⟩
    rw [HST.out]
    by_cases hn0 : n = 0
    · rw [if_pos hn0]
      exact K1.out hn0
    · rw [if_neg hn0]
      obtain ⟨v', h'⟩ := K2.out hn0
      exact ⟨v', by rw [HT.out]; exact h'⟩

/-- next: a step. -/
theorem next_any (B p : Nat) (s : ByteArray) (line : Int) (v : Value) (l : List Tk) (w : World) (h : Sc B p s line v l false w) (hs1 : 0 < s.size) (hs : s.size ≤ 1000000) (hlen : l.length ≤ 1000000) (hBw : B ≤ w.heap.size) (hg : Glob w) (hl0 : 0 ≤ line) (hl1 : line ≤ 1000000) :
    Calls Tryz.prog 10 #[.pointer (some ⟨p, 0, none⟩)] w (NextEnd B p s line l (step s.data.toList) w) := by
  have hl : s.data.toList.length = s.size := by simp
  obtain ⟨c, r, hL⟩ : ∃ c r, s.data.toList = c :: r := by
    rcases hd : s.data.toList with _ | ⟨c, r⟩
    · rw [hd] at hl; simp at hl; omega
    · exact ⟨c, r, rfl⟩
  have hc : s[0] = c := by rw [byte_at]; simp [hL]
  have hr : s.data.toList.drop 1 = r := by rw [hL]; rfl
  rw [hL, step]
  by_cases h10 : c = 10
  · rw [if_pos h10]
    exact next_feed B p s line v l w h hs1 hs hl0 hl1 (hc.trans h10)
  · rw [if_neg h10]
    by_cases hb : c = 32 ∨ c = 9 ∨ c = 13
    · rw [if_pos hb]
      exact next_blank B p s line v l w h hs1 hs (by rw [hc]; exact h10) (by rw [hc]; exact hb)
    · rw [if_neg hb]
      have nb := noBlank hs1 (by rw [hc]; exact h10) (by rw [hc]; exact hb)
      by_cases hp : Lib.hasPrefix (c :: r) [47, 47] = true
      · rw [if_pos hp]
        have := next_remark B p s line v l w h hs1 hs nb (by rw [hL]; exact hp)
        rw [hL] at this
        exact this
      · rw [if_neg hp]
        have hp' : Lib.hasPrefix s.data.toList [47, 47] = false := by rw [hL]; simpa using hp
        by_cases hh : headB c = true
        · rw [if_pos hh]
          have := next_name B p s line v l w h hs1 hs hlen hBw hg nb hp' (by rw [hc]; exact hh)
          rw [hL] at this
          exact this
        · rw [if_neg hh]
          have hh' : headB s[0] = false := by rw [hc]; simpa using hh
          by_cases h36 : c = 36
          · rw [if_pos h36]
            have := next_var B p s line v l w h hs1 hs hlen hBw hg nb hp' hh' (hc.trans h36)
            rw [hr] at this
            exact this
          · rw [if_neg h36]
            by_cases hd : digitB c = true
            · rw [if_pos hd]
              have := next_number B p s line v l w h hs1 hs hlen hBw hg nb hp' hh' (by rw [hc]; exact h36) (by rw [hc]; exact hd)
              rw [hL] at this
              exact this
            · rw [if_neg hd]
              by_cases h39 : c = 39
              · rw [if_pos h39]
                have := next_text B p s line v l w h hs1 hs hlen hBw hg (hc.trans h39)
                rw [hr] at this
                exact this
              · rw [if_neg h39]
                have := next_sign B p s line v l w h hs1 hs hlen hBw hg nb hp' hh' (by rw [hc]; exact h36) (by rw [hc]; simpa using hd) (by rw [hc]; exact h39)
                rw [hL] at this
                exact this
end Go.Proofs.YtneekcggbnodnaaGreatDoor
