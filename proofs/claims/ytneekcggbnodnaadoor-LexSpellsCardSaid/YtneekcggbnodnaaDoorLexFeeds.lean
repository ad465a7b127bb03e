/- The reference's Feeds: how many line feeds a text has. -/
import Derived.Test.YtneekcggbnodnaaDoorLexSame
namespace Go.Proofs.YtneekcggbnodnaaDoor
open Go Go.RowKit Go.Lib
set_option linter.unusedSimpArgs false
set_option linter.unusedVariables false

theorem feeds_snoc (l : List UInt8) (k : Nat) (h : k < l.length) : feeds (l.take (k + 1)) = feeds (l.take k) + if l[k] = 10 then 1 else 0 := by
  rw [List.take_succ_eq_append_getElem h, feeds_append]
  congr 1
  simp only [feeds, List.count_cons, List.count_nil]
  by_cases e : l[k] = 10
  · simp [e]
  · simp [e]
theorem feeds_any (s : ByteArray) (hs : s.size ≤ 9223372036854775807) (w : World) : Calls Tryd.prog 16 #[.string s] w fun e w' => e = .returned (.int .i64 (feeds s.data.toList : Nat)) ∧ w = w' := by
  have hl : s.data.toList.length = s.size := by simp
  have HL := Lib.hid hl
  clear hl
  go_enter Tryd.func16, Tryd.ntmps16
  go_wp2
  go_loop [3, 4] (fun n i => ∃ k m : Nat, k ≤ s.size ∧ m ≤ k ∧ i = .int .i64 k ∧ n = .int .i64 m ∧ Hid (feeds (s.data.toList.take k) = m)) (fun _ i => s.size - (intOf i).toNat)
  case atStart => exact ⟨0, 0, Nat.zero_le _, Nat.le_refl _, rfl, rfl, rfl⟩
  case round =>
    obtain ⟨k, m, hk, hm, rfl, rfl, hr⟩ := hrel
    by_cases hlt : k < s.size
    · have hsn := feeds_snoc s.data.toList k (by rw [HL.out]; exact hlt)
      rw [hr.out, ← byte_at s k hlt] at hsn
      by_cases h10 : s[k] = 10
      · rw [if_pos h10] at hsn
        have e10 : ((s[k].toNat : Int) == 10) = true := byte_is 10 (by decide) h10
        have HS := Lib.hid hsn
        clear hsn h10
        go_wp2
        go_round
        case rel => exact ⟨k + 1, m + 1, by omega, by omega, by go_num, by go_num, HS.out⟩
        case measure => simp [intOf]; omega
      · rw [if_neg h10] at hsn
        have e10 : ((s[k].toNat : Int) == 10) = false := byte_ne 10 (by decide) h10
        have HS := Lib.hid hsn
        clear hsn h10
        go_wp2
        go_round
        case rel => exact ⟨k + 1, m, by omega, by omega, by go_num, rfl, HS.out⟩
        case measure => simp [intOf]; omega
    · have e : feeds s.data.toList = m := by
        rw [← hr.out, List.take_of_length_le (by rw [HL.out]; omega)]
      have HE := Lib.hid e
      clear e
      go_wp2
      go_ret
      exact ⟨ret_int (by rw [HE.out]), rfl⟩
end Go.Proofs.YtneekcggbnodnaaDoor
