/- The reference's hex, escape, run, digits, sign answer as the plain functions do. -/
import Derived.Test.YtneekcggbnodnaaGreatDoorLexRefPlain
import Derived.Test.YtneekcggbnodnaaGreatDoorLexRefNames
import Derived.Test.YtneekcggbnodnaaGreatDoorLexTokens
import Derived.Deep.QuietTactic
namespace Go.Proofs.YtneekcggbnodnaaGreatDoor
open Go Go.RowKit Go.Lib
set_option linter.unusedSimpArgs false
set_option linter.unusedVariables false

def hexI (c : UInt8) : Int := match hexL c with
  | some x => (x : Int)
  | none => -1
theorem hexI_eq (c : UInt8) : hexI c = if 48 ≤ (c.toNat : Int) ∧ (c.toNat : Int) ≤ 57 then (c.toNat : Int) - 48 else if 97 ≤ (c.toNat : Int) ∧ (c.toNat : Int) ≤ 102 then (c.toNat : Int) - 87 else -1 := by
  by_cases h1 : 48 ≤ c.toNat ∧ c.toNat ≤ 57
  · have e : hexL c = some (c.toNat - 48) := by unfold hexL; rw [if_pos h1]
    rw [if_pos (by omega)]
    unfold hexI
    rw [e]
    simp only []
    omega
  · rw [if_neg (by omega)]
    by_cases h2 : 97 ≤ c.toNat ∧ c.toNat ≤ 102
    · have e : hexL c = some (c.toNat - 87) := by unfold hexL; rw [if_neg h1, if_pos h2]
      rw [if_pos (by omega)]
      unfold hexI
      rw [e]
      simp only []
      omega
    · have e : hexL c = none := by unfold hexL; rw [if_neg h1, if_neg h2]
      rw [if_neg (by omega)]
      unfold hexI
      rw [e]
theorem hexL_lt {c : UInt8} {x : Nat} (h : hexL c = some x) : x < 16 := by
  unfold hexL at h
  split at h
  · simp at h; omega
  · split at h
    · simp at h; omega
    · cases h
theorem hex_any (c : UInt8) (w : World) : Calls Tryz.prog 219 #[.int .u8 (c.toNat : Int)] w fun e w' => e = .returned (.int .i64 (hexI c)) ∧ w = w' := by
  have hc : c.toNat < 256 := c.toNat_lt
  have HI := Lib.hid (hexI_eq c)
  go_enter Tryz.func219, Tryz.ntmps219
  go_wp2
  all_goals
    go_ret
    refine ⟨ret_int ?_, rfl⟩
    rw [HI.out]
    split
    · omega
    · first
      | omega
      | (split <;> omega)
theorem hex_some {c : UInt8} {x : Nat} (h : hexL c = some x) (w : World) : Calls Tryz.prog 219 #[.int .u8 (c.toNat : Int)] w fun e w' => e = .returned (.int .i64 (x : Int)) ∧ w' = w := by
  refine (hex_any c w).mono ?_
  rintro e w' ⟨rfl, rfl⟩
  exact ⟨by unfold hexI; rw [h], rfl⟩
theorem hex_none {c : UInt8} (h : hexL c = none) (w : World) : Calls Tryz.prog 219 #[.int .u8 (c.toNat : Int)] w fun e w' => e = .returned (.int .i64 (-1)) ∧ w' = w := by
  refine (hex_any c w).mono ?_
  rintro e w' ⟨rfl, rfl⟩
  exact ⟨by unfold hexI; rw [h], rfl⟩

/-- What an escape is, case by case. -/
theorem esc_yes_cases {r : List UInt8} {d : UInt8} {n : Nat} (h : esc (92 :: r) = some (d, n)) :
    (∃ q, (r = 39 :: q ∧ d = 39 ∨ r = 92 :: q ∧ d = 92) ∧ n = 2) ∨ (∃ q, r = 110 :: q ∧ d = 10 ∧ n = 2) ∨ (∃ a b q x y, r = 120 :: a :: b :: q ∧ hexL a = some x ∧ hexL b = some y ∧ d = UInt8.ofNat (x * 16 + y) ∧ n = 4) := by
  rcases r with _ | ⟨c, r⟩
  · simp [esc] at h
  · by_cases h1 : c = 39
    · subst h1; cases h; exact .inl ⟨r, .inl ⟨rfl, rfl⟩, rfl⟩
    · by_cases h2 : c = 92
      · subst h2; cases h; exact .inl ⟨r, .inr ⟨rfl, rfl⟩, rfl⟩
      · by_cases h3 : c = 110
        · subst h3; cases h; exact .inr (.inl ⟨r, rfl, rfl, rfl⟩)
        · by_cases h4 : c = 120
          · subst h4
            rcases r with _ | ⟨a, _ | ⟨b, r⟩⟩
            · simp [esc] at h
            · simp [esc] at h
            · have e : esc (92 :: 120 :: a :: b :: r) = (hexLP a b).map fun m => (UInt8.ofNat m, 4) := by
                rw [← escHex_eq]; rfl
              rw [e] at h
              unfold hexLP at h
              rcases ha : hexL a with _ | x
              · rw [ha] at h; cases h
              · rcases hb : hexL b with _ | y
                · rw [ha, hb] at h; cases h
                · rw [ha, hb] at h
                  cases h
                  exact .inr (.inr ⟨a, b, r, x, y, rfl, ha, hb, rfl, rfl⟩)
          · have : esc (92 :: c :: r) = none := by
              unfold esc
              split <;> simp_all
            rw [this] at h
            cases h
theorem esc_no_cases {r : List UInt8} (h : esc (92 :: r) = none) :
    r = [] ∨ ∃ c q, r = c :: q ∧ c ≠ 39 ∧ c ≠ 92 ∧ c ≠ 110 ∧ (c ≠ 120 ∨ c = 120 ∧ (q.length < 2 ∨ ∃ a b p, q = a :: b :: p ∧ (hexL a = none ∨ ∃ x, hexL a = some x ∧ hexL b = none))) := by
  rcases r with _ | ⟨c, r⟩
  · exact .inl rfl
  · refine .inr ⟨c, r, rfl, ?_, ?_, ?_, ?_⟩
    · rintro rfl; cases h
    · rintro rfl; cases h
    · rintro rfl; cases h
    · by_cases h4 : c = 120
      · subst h4
        refine .inr ⟨rfl, ?_⟩
        rcases r with _ | ⟨a, _ | ⟨b, r⟩⟩
        · exact .inl (by simp)
        · exact .inl (by simp)
        · refine .inr ⟨a, b, r, rfl, ?_⟩
          have e : esc (92 :: 120 :: a :: b :: r) = (hexLP a b).map fun m => (UInt8.ofNat m, 4) := by
            rw [← escHex_eq]; rfl
          rw [e] at h
          unfold hexLP at h
          rcases ha : hexL a with _ | x
          · exact .inl rfl
          · rcases hb : hexL b with _ | y
            · exact .inr ⟨x, rfl, rfl⟩
            · rw [ha, hb] at h; cases h
      · exact .inl h4
theorem at_list {s : ByteArray} {L : List UInt8} (hL : s.data.toList = L) (i : Nat) (c : UInt8) (hc : L[i]? = some c) : ∃ h : i < s.size, s[i]'h = c := by
  have hl : s.data.toList.length = s.size := by simp
  obtain ⟨h, e⟩ := List.getElem?_eq_some_iff.1 hc
  subst hL
  exact ⟨by omega, e⟩
set_option maxHeartbeats 1000000 in
theorem escape_yes (s : ByteArray) (r : List UInt8) (hL : s.data.toList = 92 :: r) (hs : s.size ≤ 1000000) (d : UInt8) (n : Nat) (h : esc (92 :: r) = some (d, n)) (w : World) : Calls Tryz.prog 209 #[.string s] w fun e w' => e = .returned (.tuple #[.int .u8 (d.toNat : Int), .int .i64 (n : Int)]) ∧ ∃ k, w' = w.drewN k := by
  rcases esc_yes_cases h with ⟨q, hq, rfl⟩ | ⟨q, rfl, rfl, rfl⟩ | ⟨a, b, q, x, y, rfl, ha, hb, rfl, rfl⟩
  · have h1 : ∃ h1 : 1 < s.size, s[1]'h1 = d ∧ (d = 39 ∨ d = 92) := by
      rcases hq with ⟨rfl, rfl⟩ | ⟨rfl, rfl⟩
      · obtain ⟨p, e⟩ := at_list hL 1 39 rfl
        exact ⟨p, e, .inl rfl⟩
      · obtain ⟨p, e⟩ := at_list hL 1 92 rfl
        exact ⟨p, e, .inr rfl⟩
    obtain ⟨p, e, hd⟩ := h1
    have m1 : (2 : Int) ≤ (s.size : Int) := by omega
    have HE := Lib.hid e
    have ht : ((s[1].toNat : Int) == 92) = true ∨ ((s[1].toNat : Int) == 92) = false ∧ ((s[1].toNat : Int) == 39) = true := by
      rw [e]
      rcases hd with h | h
      · exact .inr ⟨byte_ne 92 (by decide) (by rw [h]; decide), byte_is 39 (by decide) h⟩
      · exact .inl (byte_is 92 (by decide) h)
    clear h hq hL hd e
    rcases ht with ht | ⟨ht, ht2⟩
    all_goals
      go_enter Tryz.func209, Tryz.ntmps209
      go_wp2
      go_ret2
      exact ⟨by rw [← HE.out]; rfl, 0, rfl⟩
  · obtain ⟨p, e⟩ := at_list hL 1 110 rfl
    have m1 : (2 : Int) ≤ (s.size : Int) := by omega
    have t1 : ((s[1].toNat : Int) == 92) = false := by rw [e]; decide
    have t2 : ((s[1].toNat : Int) == 39) = false := by rw [e]; decide
    have t3 : ((s[1].toNat : Int) == 110) = true := by rw [e]; decide
    clear h hL e
    go_enter Tryz.func209, Tryz.ntmps209
    go_wp2
    go_ret2
    exact ⟨rfl, 0, rfl⟩
  · obtain ⟨p, e⟩ := at_list hL 1 120 rfl
    obtain ⟨p2, e2⟩ := at_list hL 2 a rfl
    obtain ⟨p3, e3⟩ := at_list hL 3 b rfl
    have m1 : (4 : Int) ≤ (s.size : Int) := by omega
    have t1 : ((s[1].toNat : Int) == 92) = false := by rw [e]; decide
    have t2 : ((s[1].toNat : Int) == 39) = false := by rw [e]; decide
    have t3 : ((s[1].toNat : Int) == 110) = false := by rw [e]; decide
    have t4 : ((s[1].toNat : Int) == 120) = true := by rw [e]; decide
    have x16 := hexL_lt ha
    have y16 := hexL_lt hb
    have HA := Lib.hid (hex_some (show hexL s[2] = some x by rw [e2]; exact ha))
    have HB := Lib.hid (hex_some (show hexL s[3] = some y by rw [e3]; exact hb))
    have f1 : IntKind.i64.wrap ((x : Int) * 16) = (x : Int) * 16 := by rw [IntKind.wrap_i64]; omega
    have f2 : IntKind.i64.wrap ((x : Int) * 16 + (y : Int)) = (x : Int) * 16 + (y : Int) := by rw [IntKind.wrap_i64]; omega
    have f3 : IntKind.u8.wrap ((x : Int) * 16 + (y : Int)) = (x : Int) * 16 + (y : Int) := by rw [IntKind.wrap_u8]; omega
    have HR : Hid (((UInt8.ofNat (x * 16 + y)).toNat : Int) = (x : Int) * 16 + (y : Int)) := by unfold Hid; rw [UInt8.toNat_ofNat']; omega
    clear h hL e e2 e3 ha hb
    go_enter Tryz.func209, Tryz.ntmps209
    go_wp2_with (go_at_call 219; (with_reducible first | refine (HA.out _).mono ?_ | refine (HB.out _).mono ?_); rintro e w' ⟨rfl, rfl⟩)
    go_quiet ((go_at_call 219; (with_reducible first | exact Calls.quiet_of_same (HA.out _) | exact Calls.quiet_of_same (HB.out _))))
    go_wp2
    go_ret2
    exact ⟨by rw [HR.out]; rfl, _, rfl⟩
set_option maxHeartbeats 1000000 in
theorem escape_no (s : ByteArray) (r : List UInt8) (hL : s.data.toList = 92 :: r) (hs : s.size ≤ 1000000) (h : esc (92 :: r) = none) (w : World) : Calls Tryz.prog 209 #[.string s] w fun e w' => e = .returned (.tuple #[.int .u8 0, .int .i64 0]) ∧ ∃ k, w' = w.drewN k := by
  have hl : s.data.toList.length = s.size := by simp
  rcases esc_no_cases h with rfl | ⟨c, q, rfl, h1, h2, h3, h4⟩
  · have m1 : (s.size : Int) < 2 := by rw [hL] at hl; simp at hl; omega
    clear h hL hl
    go_enter Tryz.func209, Tryz.ntmps209
    go_wp2
    go_ret2
    exact ⟨rfl, 0, rfl⟩
  · obtain ⟨p, e⟩ := at_list hL 1 c rfl
    have m1 : (2 : Int) ≤ (s.size : Int) := by omega
    have t1 : ((s[1].toNat : Int) == 92) = false := by rw [e]; exact byte_ne 92 (by decide) h2
    have t2 : ((s[1].toNat : Int) == 39) = false := by rw [e]; exact byte_ne 39 (by decide) h1
    have t3 : ((s[1].toNat : Int) == 110) = false := by rw [e]; exact byte_ne 110 (by decide) h3
    rcases h4 with h4 | ⟨rfl, h4⟩
    · have t4 : ((s[1].toNat : Int) == 120) = false := by rw [e]; exact byte_ne 120 (by decide) h4
      clear h hL hl e h1 h2 h3 h4
      go_enter Tryz.func209, Tryz.ntmps209
      go_wp2
      go_ret2
      exact ⟨rfl, 0, rfl⟩
    · have t4 : ((s[1].toNat : Int) == 120) = true := by rw [e]; decide
      rcases h4 with h4 | ⟨a, b, pp, rfl, h4⟩
      · have m2 : (s.size : Int) < 4 := by rw [hL] at hl; simp at hl; omega
        clear h hL hl e h1 h2 h3 h4
        go_enter Tryz.func209, Tryz.ntmps209
        go_wp2
        go_ret2
        exact ⟨rfl, 0, rfl⟩
      · obtain ⟨p2, e2⟩ := at_list hL 2 a rfl
        obtain ⟨p3, e3⟩ := at_list hL 3 b rfl
        have m2 : (4 : Int) ≤ (s.size : Int) := by omega
        rcases h4 with h4 | ⟨x, ha, hb⟩
        · have HA := Lib.hid (hex_none (show hexL s[2] = none by rw [e2]; exact h4))
          clear h hL hl e e2 e3 h1 h2 h3 h4
          go_enter Tryz.func209, Tryz.ntmps209
          go_wp2_with (go_at_call 219; (with_reducible refine (HA.out _).mono ?_); rintro e w' ⟨rfl, rfl⟩)
          go_ret2
          exact ⟨rfl, 0, rfl⟩
        · have HA := Lib.hid (hex_some (show hexL s[2] = some x by rw [e2]; exact ha))
          have HB := Lib.hid (hex_none (show hexL s[3] = none by rw [e3]; exact hb))
          clear h hL hl e e2 e3 h1 h2 h3 ha hb
          go_enter Tryz.func209, Tryz.ntmps209
          go_wp2_with (go_at_call 219; (with_reducible first | refine (HA.out _).mono ?_ | refine (HB.out _).mono ?_); rintro e w' ⟨rfl, rfl⟩)
          go_ret2
          exact ⟨rfl, 0, rfl⟩

theorem refRun_names (s : ByteArray) (hs : s.size ≤ 1000000) (w : World) : Calls Tryz.prog 126 #[.string s, .bool true] w fun e w' => e = .returned (.int .i64 (spanL partB s.data.toList : Nat)) ∧ w = w' := by
  go_enter Tryz.func126, Tryz.ntmps126
  go_wp2
  go_loop [5] (fun i => ∃ k : Nat, k ≤ s.size ∧ i = .int .i64 k ∧ Hid (∀ j (h : j < s.data.toList.length), j < k → partB s.data.toList[j] = true)) (fun i => s.size - (intOf i).toNat)
  case atStart => exact ⟨0, Nat.zero_le _, rfl, fun j _ h => by omega⟩
  case round =>
    obtain ⟨k, hk, rfl, hall⟩ := hrel
    by_cases hlt : k < s.size
    · have hd := refDigit_any s[k]
      have hp := refPart_any s[k]
      have hdp : digitB s[k] = true → partB s[k] = true := fun h => by simp [partB, h]
      generalize hb : partB s[k] = b at hp hdp
      generalize digitB s[k] = d at hd hdp
      have HD := Lib.hid hd
      have HP := Lib.hid hp
      have HB := Lib.hid hb
      clear hd hp hb
      cases d
      · clear hdp
        cases b
        · go_wp2_with (first
            | (go_at_call 129; refine (HD.out _).mono ?_; rintro e w' ⟨rfl, rfl⟩)
            | (go_at_call 208; refine (HP.out _).mono ?_; rintro e w' ⟨rfl, rfl⟩))
          go_ret
          exact ⟨ret_int (by rw [spanL_stop hall.out (by simpa using hk) (fun _ => HB.out)]), rfl⟩
        · go_wp2_with (first
            | (go_at_call 129; refine (HD.out _).mono ?_; rintro e w' ⟨rfl, rfl⟩)
            | (go_at_call 208; refine (HP.out _).mono ?_; rintro e w' ⟨rfl, rfl⟩))
          go_round
          case rel =>
            refine ⟨k + 1, by omega, by go_num, fun j h hj => ?_⟩
            by_cases e : j = k
            · subst e; exact HB.out
            · exact hall.out j h (by omega)
          case measure => simp [intOf]; omega
      · have hbt := hdp rfl
        subst hbt
        clear hdp
        go_wp2_with (go_at_call 129; refine (HD.out _).mono ?_; rintro e w' ⟨rfl, rfl⟩)
        go_round
        case rel =>
          refine ⟨k + 1, by omega, by go_num, fun j h hj => ?_⟩
          by_cases e : j = k
          · subst e; exact HB.out
          · exact hall.out j h (by omega)
        case measure => simp [intOf]; omega
    · go_wp2
      go_ret
      exact ⟨ret_int (by rw [spanL_stop hall.out (by simpa using hk) (fun h => by simp at h; omega)]), rfl⟩
theorem refRun_digits (s : ByteArray) (hs : s.size ≤ 1000000) (w : World) : Calls Tryz.prog 126 #[.string s, .bool false] w fun e w' => e = .returned (.int .i64 (spanL digitB s.data.toList : Nat)) ∧ w = w' := by
  go_enter Tryz.func126, Tryz.ntmps126
  go_wp2
  go_loop [5] (fun i => ∃ k : Nat, k ≤ s.size ∧ i = .int .i64 k ∧ Hid (∀ j (h : j < s.data.toList.length), j < k → digitB s.data.toList[j] = true)) (fun i => s.size - (intOf i).toNat)
  case atStart => exact ⟨0, Nat.zero_le _, rfl, fun j _ h => by omega⟩
  case round =>
    obtain ⟨k, hk, rfl, hall⟩ := hrel
    by_cases hlt : k < s.size
    · have hd := refDigit_any s[k]
      generalize hb : digitB s[k] = d at hd
      have HD := Lib.hid hd
      have HB := Lib.hid hb
      clear hd hb
      cases d
      · go_wp2_with (go_at_call 129; refine (HD.out _).mono ?_; rintro e w' ⟨rfl, rfl⟩)
        go_ret
        exact ⟨ret_int (by rw [spanL_stop hall.out (by simpa using hk) (fun _ => HB.out)]), rfl⟩
      · go_wp2_with (go_at_call 129; refine (HD.out _).mono ?_; rintro e w' ⟨rfl, rfl⟩)
        go_round
        case rel =>
          refine ⟨k + 1, by omega, by go_num, fun j h hj => ?_⟩
          by_cases e : j = k
          · subst e; exact HB.out
          · exact hall.out j h (by omega)
        case measure => simp [intOf]; omega
    · go_wp2
      go_ret
      exact ⟨ret_int (by rw [spanL_stop hall.out (by simpa using hk) (fun h => by simp at h; omega)]), rfl⟩
end Go.Proofs.YtneekcggbnodnaaGreatDoor
