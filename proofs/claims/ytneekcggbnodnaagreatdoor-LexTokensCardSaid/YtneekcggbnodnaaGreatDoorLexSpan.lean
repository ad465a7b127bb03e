/- span, and the classes of bytes that lex asks. -/
import Derived.Test.YtneekcggbnodnaaGreatDoorLBase
namespace Go.Proofs.YtneekcggbnodnaaGreatDoor
open Go Go.RowKit Go.Lib
set_option linter.unusedSimpArgs false
set_option linter.unusedVariables false

def headB (c : UInt8) : Bool := decide (97 ≤ c.toNat ∧ c.toNat ≤ 122 ∨ 65 ≤ c.toNat ∧ c.toNat ≤ 90 ∨ c.toNat = 95)
def digitB (c : UInt8) : Bool := decide (48 ≤ c.toNat ∧ c.toNat ≤ 57)
def partB (c : UInt8) : Bool := headB c || digitB c
def lineB (c : UInt8) : Bool := decide (c.toNat ≠ 10)
theorem ret_bool {a b : Bool} (h : a = b) : Ending.returned (.bool a) = .returned (.bool b) := by rw [h]
theorem ret_int {k : IntKind} {a b : Int} (h : a = b) : Ending.returned (.int k a) = .returned (.int k b) := by rw [h]

theorem head_any (c : UInt8) (w : World) : Calls Tryz.prog 117 #[.int .u8 (c.toNat : Int)] w fun e w' => e = .returned (.bool (headB c)) ∧ w = w' := by
  have hc : c.toNat < 256 := c.toNat_lt
  go_enter Tryz.func117, Tryz.ntmps117
  go_wp2
  all_goals
    go_ret
    refine ⟨ret_bool ?_, rfl⟩
    rw [Bool.eq_iff_iff]
    simp only [headB, decide_eq_true_eq, Bool.or_eq_true, beq_iff_eq, true_iff, Bool.true_eq_false, Bool.false_eq_true, iff_true]
    omega
theorem part_any (c : UInt8) (w : World) : Calls Tryz.prog 118 #[.int .u8 (c.toNat : Int)] w fun e w' => e = .returned (.bool (partB c)) ∧ w = w' := by
  have hc : c.toNat < 256 := c.toNat_lt
  have hh := head_any c
  generalize hb : headB c = b at hh
  have H := Lib.hid hh
  have HB := Lib.hid hb
  clear hh hb
  cases b
  all_goals
    go_enter Tryz.func118, Tryz.ntmps118
    go_wp2_with (go_at_call 117; refine (H.out _).mono ?_; rintro e w' ⟨rfl, rfl⟩)
    all_goals
      go_ret
      refine ⟨ret_bool ?_, rfl⟩
      rw [partB, HB.out, Bool.eq_iff_iff]
      simp only [digitB, decide_eq_true_eq, Bool.or_eq_true, Bool.false_or, Bool.true_or, true_iff, Bool.false_eq_true, iff_true, false_iff]
      try omega
theorem digit_any (c : UInt8) (w : World) : Calls Tryz.prog 204 #[.int .u8 (c.toNat : Int)] w fun e w' => e = .returned (.bool (digitB c)) ∧ w = w' := by
  have hc : c.toNat < 256 := c.toNat_lt
  go_enter Tryz.func204, Tryz.ntmps204
  go_wp2
  all_goals
    go_ret
    refine ⟨ret_bool ?_, rfl⟩
    rw [Bool.eq_iff_iff]
    simp only [digitB, decide_eq_true_eq, Bool.false_eq_true, false_iff]
    omega
theorem line_any (c : UInt8) (w : World) : Calls Tryz.prog 116 #[.int .u8 (c.toNat : Int)] w fun e w' => e = .returned (.bool (lineB c)) ∧ w = w' := by
  have hc : c.toNat < 256 := c.toNat_lt
  go_enter Tryz.func116, Tryz.ntmps116
  go_wp2
  go_ret
  refine ⟨ret_bool ?_, rfl⟩
  rw [Bool.eq_iff_iff]
  simp only [lineB, decide_eq_true_eq, bne_iff_ne, ne_eq]
  omega

/-- How long something goes on. -/
def spanL (p : UInt8 → Bool) (l : List UInt8) : Nat := (l.takeWhile p).length
theorem spanL_le (p : UInt8 → Bool) (l : List UInt8) : spanL p l ≤ l.length := (List.takeWhile_sublist p).length_le
theorem spanL_stop {p : UInt8 → Bool} : ∀ {l : List UInt8} {k : Nat}, (∀ j (h : j < l.length), j < k → p l[j] = true) → k ≤ l.length → (∀ h : k < l.length, p l[k] = false) → spanL p l = k
  | [], k, _, hk, _ => by simp at hk; subst hk; rfl
  | c :: r, 0, _, _, h2 => by
    have := h2 (by simp)
    simp only [List.getElem_cons_zero] at this
    simp [spanL, this]
  | c :: r, k + 1, h, hk, h2 => by
    have hc := h 0 (by simp) (by omega)
    simp only [List.getElem_cons_zero] at hc
    have ih : spanL p r = k := spanL_stop (fun j hj hjk => by have := h (j + 1) (by simpa using hj) (by omega); simpa using this) (by simpa using hk) (fun h' => by have := h2 (by simpa using h'); simpa using this)
    simp only [spanL, List.takeWhile_cons, hc, if_true, List.length_cons] at ih ⊢
    omega
theorem byte_at (s : ByteArray) (k : Nat) (h : k < s.size) : s[k] = s.data.toList[k]'(by simpa using h) := rfl

theorem span_part (s : ByteArray) (hs : s.size ≤ 9223372036854775807) (w : World) : Calls Tryz.prog 115 #[.string s, .func (.func 118) #[] #[]] w fun e w' => e = .returned (.int .i64 (spanL partB s.data.toList : Nat)) ∧ w = w' := by
  go_enter Tryz.func115, Tryz.ntmps115
  go_wp2
  go_loop [5] (fun i => ∃ k : Nat, k ≤ s.size ∧ i = .int .i64 k ∧ Hid (∀ j (h : j < s.data.toList.length), j < k → partB s.data.toList[j] = true)) (fun i => s.size - (intOf i).toNat)
  case atStart => exact ⟨0, Nat.zero_le _, rfl, fun j _ h => by omega⟩
  case round =>
    obtain ⟨k, hk, rfl, hall⟩ := hrel
    by_cases hlt : k < s.size
    · have hc := part_any s[k]
      generalize hb : partB s[k] = b at hc
      have HC := Lib.hid hc
      have HB := Lib.hid hb
      clear hc hb
      cases b
      · go_wp2_with (go_at_call 118; refine (HC.out _).mono ?_; rintro e w' ⟨rfl, rfl⟩)
        go_ret
        exact ⟨ret_int (by rw [spanL_stop hall.out (by simpa using hk) (fun _ => HB.out)]), rfl⟩
      · go_wp2_with (go_at_call 118; refine (HC.out _).mono ?_; rintro e w' ⟨rfl, rfl⟩)
        go_round
        case rel =>
          refine ⟨k + 1, by omega, by go_num, fun j h hj => ?_⟩
          by_cases e : j = k
          · subst e; exact HB.out
          · exact hall.out j h (by omega)
        case measure => simp [intOf]; omega
    · go_wp2
      go_ret
      exact ⟨ret_int (by rw [spanL_stop hall.out (by simpa using hk) (fun h => by simp at h; omega)]), rfl⟩

theorem span_digit (s : ByteArray) (hs : s.size ≤ 9223372036854775807) (w : World) : Calls Tryz.prog 115 #[.string s, .func (.func 204) #[] #[]] w fun e w' => e = .returned (.int .i64 (spanL digitB s.data.toList : Nat)) ∧ w = w' := by
  go_enter Tryz.func115, Tryz.ntmps115
  go_wp2
  go_loop [5] (fun i => ∃ k : Nat, k ≤ s.size ∧ i = .int .i64 k ∧ Hid (∀ j (h : j < s.data.toList.length), j < k → digitB s.data.toList[j] = true)) (fun i => s.size - (intOf i).toNat)
  case atStart => exact ⟨0, Nat.zero_le _, rfl, fun j _ h => by omega⟩
  case round =>
    obtain ⟨k, hk, rfl, hall⟩ := hrel
    by_cases hlt : k < s.size
    · have hc := digit_any s[k]
      generalize hb : digitB s[k] = b at hc
      have HC := Lib.hid hc
      have HB := Lib.hid hb
      clear hc hb
      cases b
      · go_wp2_with (go_at_call 204; refine (HC.out _).mono ?_; rintro e w' ⟨rfl, rfl⟩)
        go_ret
        exact ⟨ret_int (by rw [spanL_stop hall.out (by simpa using hk) (fun _ => HB.out)]), rfl⟩
      · go_wp2_with (go_at_call 204; refine (HC.out _).mono ?_; rintro e w' ⟨rfl, rfl⟩)
        go_round
        case rel =>
          refine ⟨k + 1, by omega, by go_num, fun j h hj => ?_⟩
          by_cases e : j = k
          · subst e; exact HB.out
          · exact hall.out j h (by omega)
        case measure => simp [intOf]; omega
    · go_wp2
      go_ret
      exact ⟨ret_int (by rw [spanL_stop hall.out (by simpa using hk) (fun h => by simp at h; omega)]), rfl⟩

theorem span_line (s : ByteArray) (hs : s.size ≤ 9223372036854775807) (w : World) : Calls Tryz.prog 115 #[.string s, .func (.func 116) #[] #[]] w fun e w' => e = .returned (.int .i64 (spanL lineB s.data.toList : Nat)) ∧ w = w' := by
  go_enter Tryz.func115, Tryz.ntmps115
  go_wp2
  go_loop [5] (fun i => ∃ k : Nat, k ≤ s.size ∧ i = .int .i64 k ∧ Hid (∀ j (h : j < s.data.toList.length), j < k → lineB s.data.toList[j] = true)) (fun i => s.size - (intOf i).toNat)
  case atStart => exact ⟨0, Nat.zero_le _, rfl, fun j _ h => by omega⟩
  case round =>
    obtain ⟨k, hk, rfl, hall⟩ := hrel
    by_cases hlt : k < s.size
    · have hc := line_any s[k]
      generalize hb : lineB s[k] = b at hc
      have HC := Lib.hid hc
      have HB := Lib.hid hb
      clear hc hb
      cases b
      · go_wp2_with (go_at_call 116; refine (HC.out _).mono ?_; rintro e w' ⟨rfl, rfl⟩)
        go_ret
        exact ⟨ret_int (by rw [spanL_stop hall.out (by simpa using hk) (fun _ => HB.out)]), rfl⟩
      · go_wp2_with (go_at_call 116; refine (HC.out _).mono ?_; rintro e w' ⟨rfl, rfl⟩)
        go_round
        case rel =>
          refine ⟨k + 1, by omega, by go_num, fun j h hj => ?_⟩
          by_cases e : j = k
          · subst e; exact HB.out
          · exact hall.out j h (by omega)
        case measure => simp [intOf]; omega
    · go_wp2
      go_ret
      exact ⟨ret_int (by rw [spanL_stop hall.out (by simpa using hk) (fun h => by simp at h; omega)]), rfl⟩
end Go.Proofs.YtneekcggbnodnaaGreatDoor
