/- What the reference's digits and sign reckon, in plain Lean: the same as the program's. -/
import Derived.Test.YtneekcggbnodnaaGreatDoorLexPlain
import Derived.Lib.ItoaLen
namespace Go.Proofs.YtneekcggbnodnaaGreatDoor
open Go Go.RowKit Go.Lib
set_option linter.unusedSimpArgs false
set_option linter.unusedVariables false

/-- What digits are worth behind what is worth n. -/
def decVal (n : Nat) (t : List UInt8) : Nat := t.foldl (fun a c => a * 10 + (c.toNat - 48)) n
theorem decVal_nil (n : Nat) : decVal n [] = n := List.foldl_nil
theorem decVal_cons (n : Nat) (c : UInt8) (r : List UInt8) : decVal n (c :: r) = decVal (n * 10 + (c.toNat - 48)) r := List.foldl_cons ..
def topN : Nat := 9223372036854775808
def digF (n : Nat) : List UInt8 → Option Nat
  | [] => some n
  | c :: r => if topN < n * 10 + (c.toNat - 48) then none else digF (n * 10 + (c.toNat - 48)) r
/-- The reference's digits. -/
def digitsR (t : List UInt8) : Option Nat := if 20 < t.length ∨ 1 < t.length ∧ t.head? = some 48 then none else digF 0 t
theorem val_ge : ∀ (t : List UInt8) (n : Nat), n ≤ decVal n t
  | [], n => Nat.le_refl _
  | c :: r, n => by
    have := val_ge r (n * 10 + (c.toNat - 48))
    rw [decVal_cons]; omega
theorem val_snoc : ∀ (t : List UInt8) (n : Nat) (c : UInt8), decVal n (t ++ [c]) = decVal n t * 10 + (c.toNat - 48)
  | [], n, c => by rw [List.nil_append, decVal_cons, decVal_nil, decVal_nil]
  | d :: r, n, c => by rw [List.cons_append, decVal_cons, val_snoc r, decVal_cons]
theorem digitB_iff {c : UInt8} : digitB c = true ↔ 48 ≤ c.toNat ∧ c.toNat ≤ 57 := by simp [digitB]
theorem digF_val : ∀ (t : List UInt8) (n : Nat), (∀ c ∈ t, digitB c = true) → n ≤ 9223372036854775808 → digF n t = if decVal n t ≤ 9223372036854775808 then some (decVal n t) else none
  | [], n, _, hn => by rw [digF, decVal_nil, if_pos hn]
  | c :: r, n, h, hn => by
    have hc := digitB_iff.1 (h c List.mem_cons_self)
    rw [digF, decVal_cons]
    have ht : topN = 9223372036854775808 := rfl
    by_cases hx : topN < n * 10 + (c.toNat - 48)
    · rw [if_pos hx, if_neg]
      have := val_ge r (n * 10 + (c.toNat - 48))
      omega
    · rw [if_neg hx]
      exact digF_val r _ (fun x hx => h x (List.mem_cons_of_mem _ hx)) (by omega)
theorem parse_val : ∀ (t : List UInt8) (n : Nat), (∀ c ∈ t, digitB c = true) → n ≤ 18446744073709551615 → parseUintM 18446744073709551615 n t = if decVal n t ≤ 18446744073709551615 then .ok (decVal n t) else .range
  | [], n, _, hn => by rw [parseUintM, decVal_nil, if_pos hn]
  | c :: r, n, h, hn => by
    have hc := digitB_iff.1 (h c List.mem_cons_self)
    rw [parseUintM, decVal_cons, if_pos hc]
    have hge := val_ge r (n * 10 + (c.toNat - 48))
    by_cases h1 : 1844674407370955162 ≤ n
    · rw [if_pos h1, if_neg (by omega)]
    · rw [if_neg h1]
      by_cases h2 : 18446744073709551615 < n * 10 + (c.toNat - 48)
      · rw [if_pos h2, if_neg (by omega)]
      · rw [if_neg h2]
        exact parse_val r _ (fun x hx => h x (List.mem_cons_of_mem _ hx)) (by omega)
theorem dec_head : ∀ (u : Nat), 1 ≤ u → (decDigits u).head? ≠ some 48 := by
  intro u
  induction u using Nat.strongRecOn with
  | _ u ih =>
    intro hu
    rw [decDigits]
    by_cases h : u < 10
    · rw [dif_pos h]
      simp only [List.head?_cons, ne_eq, Option.some.injEq]
      intro e
      have := congrArg UInt8.toNat e
      rw [UInt8.toNat_ofNat'] at this
      have h48 : (48 : UInt8).toNat = 48 := rfl
      rw [h48] at this
      omega
    · rw [dif_neg h]
      have h1 := ih (u / 10) (by omega) (by omega)
      have hne : decDigits (u / 10) ≠ [] := by
        intro e
        have := decDigits_length (u / 10)
        rw [e] at this
        have := nDigits_pos (u / 10)
        simp at *
        omega
      rcases hd : decDigits (u / 10) with _ | ⟨c, r⟩
      · exact absurd hd hne
      · rw [hd] at h1
        simpa using h1
theorem dig_char {c : UInt8} (h : digitB c = true) : UInt8.ofNat (48 + (c.toNat - 48)) = c := by
  have := digitB_iff.1 h
  rw [show 48 + (c.toNat - 48) = c.toNat by omega]
  simp
theorem val_pos {c : UInt8} {r : List UInt8} (h : digitB c = true) (h48 : c ≠ 48) : 1 ≤ decVal 0 (c :: r) := by
  have := digitB_iff.1 h
  have h1 := val_ge r (0 * 10 + (c.toNat - 48))
  have : c.toNat ≠ 48 := fun e => h48 (UInt8.toNat_inj.1 (by rw [e]; rfl))
  rw [decVal_cons]
  omega
theorem dec_val : ∀ (m : Nat) (t : List UInt8), t.length = m → t ≠ [] → (∀ c ∈ t, digitB c = true) → ¬ (1 < t.length ∧ t.head? = some 48) → decDigits (decVal 0 t) = t := by
  intro m
  induction m with
  | zero => intro t h h0; exact absurd (List.eq_nil_of_length_eq_zero h) h0
  | succ m ih =>
    intro t hm h0 hd hz
    obtain ⟨r, c, rfl⟩ : ∃ r c, t = r ++ [c] := ⟨t.dropLast, t.getLast h0, (List.dropLast_concat_getLast h0).symm⟩
    have hc := hd c (by simp)
    have hcb := digitB_iff.1 hc
    rw [val_snoc]
    rcases r with _ | ⟨b, r⟩
    · rw [decVal_nil, decDigits, dif_pos (by omega), Nat.zero_mul, Nat.zero_add, dig_char hc]
      rfl
    · have hb := hd b (by simp)
      have hb48 : b ≠ 48 := by
        rintro rfl
        exact hz ⟨by simp, by simp⟩
      have ih' := ih (b :: r) (by simpa using hm) (by simp) (fun x hx => hd x (by simp at hx ⊢; rcases hx with h | h; exact .inl h; exact .inr (.inl h))) (by
        rintro ⟨_, h⟩
        simp at h
        exact hb48 h)
      have hp := val_pos (r := r) hb hb48
      rw [decDigits, dif_neg (by omega), show (decVal 0 (b :: r) * 10 + (c.toNat - 48)) / 10 = decVal 0 (b :: r) by omega, show (decVal 0 (b :: r) * 10 + (c.toNat - 48)) % 10 = c.toNat - 48 by omega, dig_char hc, ih']
/-- The two readings of a row of digits are one. -/
theorem digitsR_eq (t : List UInt8) (h0 : t ≠ []) (hd : ∀ c ∈ t, digitB c = true) : digitsR t = numV t := by
  have hp : parseUintB 64 t = if decVal 0 t ≤ 18446744073709551615 then .ok (decVal 0 t) else .range := by
    rw [parseUintB, if_neg h0]
    exact parse_val t 0 hd (by omega)
  unfold numV digitsR
  rw [hp, digF_val t 0 hd (by omega)]
  by_cases hz : 1 < t.length ∧ t.head? = some 48
  · rw [if_pos (.inr hz)]
    have hne : decDigits (decVal 0 t) ≠ t := by
      intro e
      by_cases hv : 1 ≤ decVal 0 t
      · have := dec_head _ hv
        rw [e] at this
        exact this hz.2
      · have : decVal 0 t = 0 := by omega
        rw [this, decDigits_one (by omega)] at e
        rw [← e] at hz
        simp at hz
    split
    · rename_i u hu
      by_cases hv : decVal 0 t ≤ 18446744073709551615
      · rw [if_pos hv] at hu
        cases hu
        rw [if_neg (fun h => hne h.2)]
      · rw [if_neg hv] at hu; cases hu
    · rfl
  · have hdec := dec_val t.length t rfl h0 hd hz
    by_cases hv : decVal 0 t ≤ 9223372036854775808
    · have hlen : t.length ≤ 20 := by
        have h1 := nDigits_le20 (decVal 0 t) (by omega)
        rw [← decDigits_length, hdec] at h1
        exact h1
      rw [if_neg (by rintro (h | h); omega; exact hz h), if_pos hv, if_pos (show decVal 0 t ≤ 18446744073709551615 by omega)]
      simp only []
      rw [if_pos ⟨hv, hdec⟩]
    · rw [if_neg hv]
      split
      · by_cases hv2 : decVal 0 t ≤ 18446744073709551615
        · rw [if_pos hv2]
          simp only []
          rw [if_neg (fun h => hv h.1)]
        · rw [if_neg hv2]
      · by_cases hv2 : decVal 0 t ≤ 18446744073709551615
        · rw [if_pos hv2]
          simp only []
          rw [if_neg (fun h => hv h.1)]
        · rw [if_neg hv2]

/-- The reference's sign: the first in its list that begins here. -/
def signRF : List (List UInt8) → List UInt8 → Nat
  | [], _ => 0
  | w :: ws, L => if L.take w.length = w then w.length else signRF ws L
theorem sign_sorted : signList.Pairwise (fun a b => b.length ≤ a.length) := by decide
theorem signRF_spec : ∀ (ws : List (List UInt8)) (L : List UInt8), ws.Pairwise (fun a b => b.length ≤ a.length) → (∀ w ∈ ws, L.take w.length = w → w.length ≤ signRF ws L) ∧ (signRF ws L = 0 ∨ L.take (signRF ws L) ∈ ws ∧ signRF ws L ≤ L.length)
  | [], L, _ => ⟨fun w hw => by simp at hw, .inl rfl⟩
  | w :: ws, L, hp => by
    obtain ⟨h1, h2⟩ := List.pairwise_cons.1 hp
    have ih := signRF_spec ws L h2
    rw [signRF]
    by_cases h : L.take w.length = w
    · rw [if_pos h]
      refine ⟨fun x hx hxl => ?_, .inr ⟨by rw [h]; exact List.mem_cons_self, ?_⟩⟩
      · rcases List.mem_cons.1 hx with rfl | hx
        · exact Nat.le_refl _
        · exact h1 x hx
      · have := congrArg List.length h
        rw [List.length_take] at this
        omega
    · rw [if_neg h]
      refine ⟨fun x hx hxl => ?_, ?_⟩
      · rcases List.mem_cons.1 hx with rfl | hx
        · exact absurd hxl h
        · exact ih.1 x hx hxl
      · rcases ih.2 with h | ⟨h, h'⟩
        · exact .inl h
        · exact .inr ⟨List.mem_cons_of_mem _ h, h'⟩
theorem signFrom_max (L : List UInt8) : ∀ (k m : Nat), m ≤ k → k ≤ L.length → (m = 0 ∨ L.take m ∈ signList) → (∀ w ∈ signList, L.take w.length = w → w.length ≤ m) → signFrom k L = m := by
  intro k
  induction k with
  | zero => intro m hm _ _ _; rw [signFrom]; omega
  | succ k ih =>
    intro m hm hk h0 hmax
    rw [signFrom]
    by_cases hs : signB (L.take (k + 1)) = true
    · rw [if_pos hs]
      have hmem : L.take (k + 1) ∈ signList := by simpa [signB] using hs
      have hl : (L.take (k + 1)).length = k + 1 := by rw [List.length_take]; omega
      have := hmax _ hmem (by rw [hl])
      omega
    · rw [if_neg hs]
      by_cases e : m = k + 1
      · subst e
        rcases h0 with h | h
        · omega
        · exact absurd (by simpa [signB] using h) hs
      · exact ih m (by omega) (by omega) h0 hmax
theorem signRF_eq (L : List UInt8) : signRF signList L = signN L := by
  obtain ⟨h1, h2⟩ := signRF_spec signList L sign_sorted
  rw [signN]
  refine (signFrom_max L _ _ ?_ (Nat.min_le_right _ _) ?_ h1).symm
  · rcases h2 with h | ⟨h, h'⟩
    · omega
    · have := sign_long _ h
      rw [List.length_take] at this
      omega
  · rcases h2 with h | ⟨h, _⟩
    · exact .inl h
    · exact .inr h
end Go.Proofs.YtneekcggbnodnaaGreatDoor
