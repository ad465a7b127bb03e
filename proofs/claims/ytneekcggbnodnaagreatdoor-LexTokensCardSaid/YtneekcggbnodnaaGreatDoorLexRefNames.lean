/- The reference's Word and Name answer as the program's. -/
import Derived.Test.YtneekcggbnodnaaGreatDoorLexWords
namespace Go.Proofs.YtneekcggbnodnaaGreatDoor
open Go Go.RowKit Go.Lib
set_option linter.unusedSimpArgs false
set_option linter.unusedVariables false

theorem bytes_of_list {s : ByteArray} {l : List UInt8} (h : s.data.toList = l) : s = ⟨l.toArray⟩ := by rw [← h]
theorem word_neq {s : ByteArray} (h : wordB s.data.toList = false) (l : List UInt8) (hl : l ∈ wordList) : (s.toList == l) = false := by
  rw [ByteArray.toList_eq]
  apply beq_false_of_ne
  rintro rfl
  rw [wordB, Bool.eq_false_iff] at h
  exact h (by simpa using hl)
set_option maxHeartbeats 4000000 in
theorem refWord_no (s : ByteArray) (h : wordB s.data.toList = false) (w : World) : Calls Tryz.prog 127 #[.string s] w fun e w' => e = .returned (.bool false) ∧ w = w' := by
  have n0 := word_neq h [97, 98, 115, 116, 114, 97, 99, 116] (by decide)
  have n1 := word_neq h [97, 115] (by decide)
  have n2 := word_neq h [98, 114, 101, 97, 107] (by decide)
  have n3 := word_neq h [99, 97, 116, 99, 104] (by decide)
  have n4 := word_neq h [99, 108, 97, 115, 115] (by decide)
  have n5 := word_neq h [99, 111, 110, 116, 105, 110, 117, 101] (by decide)
  have n6 := word_neq h [101, 99, 104, 111] (by decide)
  have n7 := word_neq h [101, 108, 115, 101] (by decide)
  have n8 := word_neq h [101, 120, 116, 101, 110, 100, 115] (by decide)
  have n9 := word_neq h [102, 97, 108, 115, 101] (by decide)
  have n10 := word_neq h [102, 105, 110, 97, 108, 108, 121] (by decide)
  have n11 := word_neq h [102, 111, 114, 101, 97, 99, 104] (by decide)
  have n12 := word_neq h [102, 114, 111, 109] (by decide)
  have n13 := word_neq h [102, 117, 110, 99, 116, 105, 111, 110] (by decide)
  have n14 := word_neq h [105, 102] (by decide)
  have n15 := word_neq h [105, 109, 112, 108, 101, 109, 101, 110, 116, 115] (by decide)
  have n16 := word_neq h [105, 110, 115, 116, 97, 110, 99, 101, 111, 102] (by decide)
  have n17 := word_neq h [105, 110, 116, 101, 114, 102, 97, 99, 101] (by decide)
  have n18 := word_neq h [110, 101, 119] (by decide)
  have n19 := word_neq h [110, 117, 108, 108] (by decide)
  have n20 := word_neq h [112, 117, 98, 108, 105, 99] (by decide)
  have n21 := word_neq h [114, 101, 116, 117, 114, 110] (by decide)
  have n22 := word_neq h [116, 104, 114, 111, 119] (by decide)
  have n23 := word_neq h [116, 114, 117, 101] (by decide)
  have n24 := word_neq h [116, 114, 121] (by decide)
  have n25 := word_neq h [119, 104, 105, 108, 101] (by decide)
  have n26 := word_neq h [121, 105, 101, 108, 100] (by decide)
  clear h
  go_enter Tryz.func127, Tryz.ntmps127
  go_wp2
  go_ret
  exact ⟨rfl, rfl⟩
set_option maxHeartbeats 4000000 in
theorem refWord_yes (s : ByteArray) (h : wordB s.data.toList = true) (w : World) : Calls Tryz.prog 127 #[.string s] w fun e w' => e = .returned (.bool true) ∧ w = w' := by
  have hm : s.data.toList ∈ wordList := by simpa [wordB] using h
  clear h
  simp only [wordList, List.mem_cons, List.not_mem_nil, or_false] at hm
  rcases hm with hm | hm | hm | hm | hm | hm | hm | hm | hm | hm | hm | hm | hm | hm | hm | hm | hm | hm | hm | hm | hm | hm | hm | hm | hm | hm | hm
  all_goals
    obtain rfl := bytes_of_list hm
    clear hm
    go_enter Tryz.func127, Tryz.ntmps127
    go_wp2
    go_ret
    exact ⟨rfl, rfl⟩
theorem refWord_any (s : ByteArray) (w : World) : Calls Tryz.prog 127 #[.string s] w fun e w' => e = .returned (.bool (wordB s.data.toList)) ∧ w = w' := by
  rcases h : wordB s.data.toList with _ | _
  · exact refWord_no s h w
  · exact refWord_yes s h w
theorem refHead_any (c : UInt8) (w : World) : Calls Tryz.prog 125 #[.int .u8 (c.toNat : Int)] w fun e w' => e = .returned (.bool (headB c)) ∧ w = w' := by
  have hc : c.toNat < 256 := c.toNat_lt
  go_enter Tryz.func125, Tryz.ntmps125
  go_wp2
  all_goals
    go_ret
    refine ⟨ret_bool ?_, rfl⟩
    rw [Bool.eq_iff_iff]
    simp only [headB, decide_eq_true_eq, Bool.or_eq_true, beq_iff_eq, true_iff, Bool.true_eq_false, Bool.false_eq_true, iff_true]
    omega
theorem refDigit_any (c : UInt8) (w : World) : Calls Tryz.prog 129 #[.int .u8 (c.toNat : Int)] w fun e w' => e = .returned (.bool (digitB c)) ∧ w = w' := by
  have hc : c.toNat < 256 := c.toNat_lt
  go_enter Tryz.func129, Tryz.ntmps129
  go_wp2
  all_goals
    go_ret
    refine ⟨ret_bool ?_, rfl⟩
    rw [Bool.eq_iff_iff]
    simp only [digitB, decide_eq_true_eq, Bool.false_eq_true, false_iff]
    omega
theorem refPart_any (c : UInt8) (w : World) : Calls Tryz.prog 208 #[.int .u8 (c.toNat : Int)] w fun e w' => e = .returned (.bool (partB c)) ∧ w = w' := by
  have hh := refHead_any c
  have hd := refDigit_any c
  have he : partB c = (headB c || digitB c) := rfl
  generalize partB c = R at he ⊢
  generalize headB c = b at hh he
  generalize digitB c = d at hd he
  have H := Lib.hid hh
  have D := Lib.hid hd
  have HE := Lib.hid he
  clear hh hd he
  cases b
  all_goals
    go_enter Tryz.func208, Tryz.ntmps208
    go_wp2_with (first
      | (go_at_call 125; refine (H.out _).mono ?_; rintro e w' ⟨rfl, rfl⟩)
      | (go_at_call 129; refine (D.out _).mono ?_; rintro e w' ⟨rfl, rfl⟩))
    go_ret
    exact ⟨ret_bool (by rw [HE.out]; simp), rfl⟩
theorem all_span (l : List UInt8) (h : ∀ j (hj : j < l.length), partB l[j] = true) : spanL partB l = l.length :=
  spanL_stop (fun j hj _ => h j hj) (Nat.le_refl _) (fun h => by omega)
theorem not_span (l : List UInt8) (k : Nat) (hk : k < l.length) (h : partB l[k] = false) : spanL partB l ≠ l.length := by
  intro e
  have hm : l[k] ∈ l.takeWhile partB := by
    have : l.takeWhile partB = l := (List.takeWhile_prefix partB).eq_of_length e
    rw [this]
    exact List.getElem_mem hk
  have : ∀ (A : List UInt8), ∀ x ∈ A.takeWhile partB, partB x = true := by
    intro A
    induction A with
    | nil => simp
    | cons a A ih =>
      by_cases ha : partB a = true
      · rw [List.takeWhile_cons_of_pos ha]
        intro x hx
        rcases List.mem_cons.1 hx with rfl | hx
        · exact ha
        · exact ih x hx
      · rw [List.takeWhile_cons_of_neg ha]
        simp
  rw [this l _ hm] at h
  cases h
set_option maxHeartbeats 1000000 in
theorem refName_any (s : ByteArray) (hs : s.size ≤ 140737488355328) (w : World) : Calls Tryz.prog 128 #[.string s] w fun e w' => e = .returned (.bool (nameB s.data.toList)) ∧ w = w' := by
  have hl : s.data.toList.length = s.size := by simp
  by_cases h0 : s.size < 1
  · have e0 : s.data.toList = [] := List.eq_nil_of_length_eq_zero (by omega)
    have hz : (s.size : Int) < 1 := by omega
    have E0 := Lib.hid e0
    clear h0 hl e0
    go_enter Tryz.func128, Tryz.ntmps128
    go_wp2
    go_ret
    exact ⟨ret_bool (by rw [E0.out]; rfl), rfl⟩
  · have e1 : nameB s.data.toList = (decide (s.size ≤ 24) && headB (s[0]'(by omega)) && (spanL partB s.data.toList == s.size) && !wordB s.data.toList) := by
      have e : s.data.toList.headD 0 = s[0]'(by omega) := by
        cases hd : s.data.toList with
        | nil => rw [hd] at hl; simp at hl; omega
        | cons c r => rw [byte_at]; simp [hd]
      have e2 : s.data.toList.isEmpty = false := by
        cases hd : s.data.toList with
        | nil => rw [hd] at hl; simp at hl; omega
        | cons c r => rfl
      rw [nameB, e, e2, hl]; rfl
    have hz : (1 : Int) ≤ (s.size : Int) := by omega
    have hz0 : 0 < s.size := by omega
    by_cases h24 : s.size ≤ 24
    · have hz2 : (s.size : Int) ≤ 24 := by omega
      have ch := refHead_any (s[0]'(by omega))
      have cw := refWord_any s
      have hspan : Hid ((∀ j (hj : j < s.data.toList.length), partB s.data.toList[j] = true) → (spanL partB s.data.toList == s.size) = true) := fun h => by simpa [hl] using all_span _ h
      have hspan2 : Hid (∀ k (hk : k < s.data.toList.length), partB s.data.toList[k] = false → (spanL partB s.data.toList == s.size) = false) := fun k hk h => by
        apply beq_false_of_ne
        rw [← hl]
        exact not_span _ k hk h
      rw [decide_eq_true h24, Bool.true_and] at e1
      generalize nameB s.data.toList = R at e1 ⊢
      generalize headB (s[0]'(by omega)) = b1 at e1 ch
      generalize wordB s.data.toList = b3 at e1 cw
      generalize (spanL partB s.data.toList == s.size) = b2 at e1 hspan hspan2
      have CH := Lib.hid ch
      have CW := Lib.hid cw
      have E1 := Lib.hid e1
      have HL := Lib.hid hl
      clear ch cw e1 hl h24
      cases b1
      · go_enter Tryz.func128, Tryz.ntmps128
        go_wp2_with (go_at_call 125; refine (CH.out _).mono ?_; rintro e w' ⟨rfl, rfl⟩)
        go_ret
        exact ⟨ret_bool (by rw [E1.out]; simp), rfl⟩
      · cases b3
        · go_enter Tryz.func128, Tryz.ntmps128
          go_wp2_with (first
            | (go_at_call 125; refine (CH.out _).mono ?_; rintro e w' ⟨rfl, rfl⟩)
            | (go_at_call 127; refine (CW.out _).mono ?_; rintro e w' ⟨rfl, rfl⟩))
          go_loop [3] (fun i => ∃ k : Nat, k ≤ s.size ∧ i = .int .i64 k ∧ Hid (∀ j (h : j < s.data.toList.length), j < k → partB s.data.toList[j] = true)) (fun i => s.size - (intOf i).toNat)
          case atStart => exact ⟨0, Nat.zero_le _, rfl, fun j _ h => by omega⟩
          case round =>
            obtain ⟨k, hk, rfl, hall⟩ := hrel
            by_cases hlt : k < s.size
            · have hc := refPart_any s[k]
              generalize hb : partB s[k] = b at hc
              have HC := Lib.hid hc
              have HB := Lib.hid hb
              clear hc hb
              cases b
              · go_wp2_with (go_at_call 208; refine (HC.out _).mono ?_; rintro e w' ⟨rfl, rfl⟩)
                go_ret
                exact ⟨ret_bool (by rw [E1.out, hspan2.out k (by rw [HL.out]; exact hlt) HB.out]; simp), rfl⟩
              · go_wp2_with (go_at_call 208; refine (HC.out _).mono ?_; rintro e w' ⟨rfl, rfl⟩)
                go_round
                case rel =>
                  refine ⟨k + 1, by omega, by go_num, fun j h hj => ?_⟩
                  by_cases e : j = k
                  · subst e; exact HB.out
                  · exact hall.out j h (by omega)
                case measure => simp [intOf]; omega
            · go_wp2
              go_ret
              exact ⟨ret_bool (by rw [E1.out, hspan.out (fun j hj => hall.out j hj (by rw [HL.out] at hj; omega))]; simp), rfl⟩
        · go_enter Tryz.func128, Tryz.ntmps128
          go_wp2_with (first
            | (go_at_call 125; refine (CH.out _).mono ?_; rintro e w' ⟨rfl, rfl⟩)
            | (go_at_call 127; refine (CW.out _).mono ?_; rintro e w' ⟨rfl, rfl⟩))
          go_ret
          exact ⟨ret_bool (by rw [E1.out]; simp), rfl⟩
    · have hz2 : (24 : Int) < (s.size : Int) := by omega
      have e3 : nameB s.data.toList = false := by rw [e1, decide_eq_false h24]; simp
      have E1 := Lib.hid e3
      clear e1 e3 hl h24
      go_enter Tryz.func128, Tryz.ntmps128
      go_wp2
      go_ret
      exact ⟨ret_bool (by rw [E1.out]), rfl⟩
end Go.Proofs.YtneekcggbnodnaaGreatDoor
