/- Numbers and their decimal texts, in plain Lean: what is written is read back, two numbers have two texts. -/
import Derived.Lib.AtoiAll
import Derived.Lib.ParseIntBTie
import Derived.Lib.ItoaMem
import Derived.Lib.ItoaLen
namespace Go.Proofs.YtgmkhbgnlciooaaDoor.Num
open Go Go.Lib

theorem dig_toNat {d : Nat} (h : d < 10) : (UInt8.ofNat (48 + d)).toNat = 48 + d := by simp; omega

theorem pu_digits (u : Nat) : u < 18446744073709551616 → ∀ r, parseUint10 0 (decDigits u ++ r) = parseUint10 u r := by
  induction u using Nat.strongRecOn with
  | _ u ih =>
    intro hu r
    rw [decDigits]
    by_cases h : u < 10
    · rw [dif_pos h]
      simp only [List.singleton_append, parseUint10, dig_toNat h]
      rw [if_pos (by omega), if_neg (by omega), if_neg (by omega)]
      simp
    · rw [dif_neg h, List.append_assoc, ih (u / 10) (by omega) (by omega)]
      simp only [List.singleton_append, parseUint10, dig_toNat (show u % 10 < 10 by omega)]
      rw [if_pos (by omega), if_neg (by omega), if_neg (by omega)]
      congr 1
      omega

theorem decDigits_ne (u : Nat) : decDigits u ≠ [] := by
  rw [decDigits]
  split
  · simp
  · simp

theorem decDigits_head (u : Nat) : ∃ c r, decDigits u = c :: r ∧ 48 ≤ c.toNat ∧ c.toNat ≤ 57 := by
  induction u using Nat.strongRecOn with
  | _ u ih =>
    rw [decDigits]
    by_cases h : u < 10
    · rw [dif_pos h]
      exact ⟨_, _, rfl, by rw [dig_toNat h]; omega, by rw [dig_toNat h]; omega⟩
    · rw [dif_neg h]
      obtain ⟨c, r, e, h1, h2⟩ := ih (u / 10) (by omega)
      exact ⟨c, r ++ [UInt8.ofNat (48 + u % 10)], by rw [e]; rfl, h1, h2⟩

theorem mag_digits {u : Nat} (h : u < 18446744073709551616) : parseMag (decDigits u) = .ok u := by
  unfold parseMag
  rw [if_neg (decDigits_ne u)]
  have := pu_digits u h []
  rw [List.append_nil] at this
  rw [this]; rfl

/-- A number's text is read as that number. -/
theorem atoi_itoa {v : Int} (h0 : -9223372036854775808 ≤ v) (h1 : v ≤ 9223372036854775807) : atoiAll (itoa v) = .ok v := by
  by_cases hv : v < 0
  · obtain ⟨u, rfl⟩ : ∃ u : Nat, v = -(u : Int) := ⟨v.natAbs, by omega⟩
    rw [itoa_neg u (by omega)]
    have e : (45 : UInt8).toNat = 45 := rfl
    simp only [atoiAll, e, or_true, if_true, mag_digits (show u < 18446744073709551616 by omega)]
    rw [if_neg (by simp), if_neg (by omega)]
  · obtain ⟨u, rfl⟩ : ∃ u : Nat, v = (u : Int) := ⟨v.toNat, by omega⟩
    rw [itoa_nonneg]
    have hm := mag_digits (show u < 18446744073709551616 by omega)
    obtain ⟨c, r, e, c1, c2⟩ := decDigits_head u
    rw [e] at hm ⊢
    simp only [atoiAll]
    rw [if_neg (by omega), hm]
    simp only []
    rw [if_neg (by omega), if_neg (by omega), if_neg (by omega)]

theorem itoa_inj {a b : Int} (a0 : -9223372036854775808 ≤ a) (a1 : a ≤ 9223372036854775807) (b0 : -9223372036854775808 ≤ b) (b1 : b ≤ 9223372036854775807) (h : itoa a = itoa b) : a = b := by
  have := atoi_itoa a0 a1
  rw [h, atoi_itoa b0 b1] at this
  exact (NumEnd.ok.inj this).symm

/-- What word.Parse answers. -/
def parse (l : List UInt8) : Int × Int :=
  match parseIntB 64 l with
  | .ok v => if itoa v = l then (v, 0) else (0, 12)
  | _ => (0, 12)

theorem parse_num {v : Int} (h0 : -9223372036854775808 ≤ v) (h1 : v ≤ 9223372036854775807) : parse (itoa v) = (v, 0) := by
  unfold parse
  rw [parseIntB_64, atoi_itoa h0 h1]
  simp

theorem parse_not {l : List UInt8} (h : ∀ v : Int, -9223372036854775808 ≤ v → v ≤ 9223372036854775807 → itoa v ≠ l) : parse l = (0, 12) := by
  unfold parse
  cases e : parseIntB 64 l with
  | ok v =>
    have hb := parseIntB_bounds e
    simp only []
    rw [if_neg (h v (by have := hb.1; simpa using this) (by have := hb.2; simp at this; omega))]
  | range => rfl
  | _ => rfl
end Go.Proofs.YtgmkhbgnlciooaaDoor.Num
