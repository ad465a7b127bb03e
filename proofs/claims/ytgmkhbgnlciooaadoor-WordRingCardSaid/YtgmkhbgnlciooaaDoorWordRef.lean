/- The reference's Text and Parse of layer 1, as the print has them, answer the numbers' texts and their numbers. -/
import Derived.Test.YtgmkhbgnlciooaaDoorRefParse
import Derived.Test.YtgmkhbgnlciooaaDoorNum
namespace Go.Proofs.YtgmkhbgnlciooaaDoor.PRef
open Go Go.Lib Go.RowKit Go.Proofs.YtgmkhbgnlciooaaDoorW.PrintWords Go.Proofs.YtgmkhbgnlciooaaDoorW.PrintLast Go.Proofs.YtgmkhbgnlciooaaDoorW.PrintMore Num

theorem u64w (x : Int) : IntKind.u64.wrap x = x % 18446744073709551616 := by simp [IntKind.wrap, IntKind.signed, IntKind.bits]
def decD (u : Nat) : List UInt8 := if u = 0 then [] else decDigits u
theorem decD_step {u : Nat} (h : u ≠ 0) : decD u = decD (u / 10) ++ [UInt8.ofNat (48 + u % 10)] := by
  unfold decD
  rw [if_neg h]
  by_cases h10 : u < 10
  · rw [if_pos (by omega), decDigits, dif_pos h10, Nat.mod_eq_of_lt h10]; rfl
  · rw [if_neg (by omega), decDigits, dif_neg h10]

theorem dig_int {u : Nat} (hu : u < 18446744073709551616) : (IntKind.u64.wrap (48 + (Int.tmod (u : Int) 10))) % 256 = ((48 + u % 10 : Nat) : Int) := by
  rw [Int.tmod_eq_emod_of_nonneg (by omega)]
  simp only [u64w]
  omega
theorem data_append (a b : ByteArray) : (a ++ b).data.toList = a.data.toList ++ b.data.toList := by simp
theorem size_mk (l : List UInt8) : (⟨l.toArray⟩ : ByteArray).size = l.length := by simp [ByteArray.size]
theorem str_one (d : Nat) (l : List UInt8) : (strOfNums [((d : Nat) : Int)]) ++ (⟨l.toArray⟩ : ByteArray) = ⟨(UInt8.ofNat d :: l).toArray⟩ := by
  apply ByteArray.ext
  apply Array.ext'
  rw [data_append]
  simp [strOfNums_data]
theorem div_int {u : Nat} (hu : u < 18446744073709551616) : IntKind.u64.wrap (Int.tdiv (u : Int) 10) = ((u / 10 : Nat) : Int) := by
  rw [Int.tdiv_eq_ediv_of_nonneg (by omega)]
  simp only [u64w]
  omega

theorem text_loop (x0 : Int) (d : Nat) : ∀ (k u : Nat) (l : List UInt8), u < 10 ^ d → u < 18446744073709551616 → d < k → l.length + d ≤ 1000 →
    postluderef01_Text.l0 k x0 u ⟨l.toArray⟩ = some ⟨((if x0 < 0 then [45] else []) ++ (decD u ++ l)).toArray⟩ := by
  have stop : ∀ (k : Nat) (l : List UInt8), l.length ≤ 1000 → postluderef01_Text.l0 (k + 1) x0 (0 : Nat) ⟨l.toArray⟩ = some ⟨((if x0 < 0 then [45] else []) ++ (decD 0 ++ l)).toArray⟩ := by
    intro k l hl
    simp only [postluderef01_Text.l0]
    rw [if_neg (by omega)]
    by_cases hx : x0 < 0
    · rw [if_pos hx, if_pos hx, if_pos (by simp [ByteArray.size]; omega)]
      congr 1
    · rw [if_neg hx, if_neg hx]; rfl
  induction d with
  | zero =>
    intro k u l hu hu2 hk hl
    obtain ⟨k, rfl⟩ : ∃ m, k = m + 1 := ⟨k - 1, by omega⟩
    obtain rfl : u = 0 := by simp at hu; exact hu
    exact stop k l (by omega)
  | succ d ih =>
    intro k u l hu hu2 hk hl
    obtain ⟨k, rfl⟩ : ∃ m, k = m + 1 := ⟨k - 1, by omega⟩
    by_cases h0 : u = 0
    · subst h0; exact stop k l (by omega)
    · simp only [postluderef01_Text.l0]
      rw [if_pos (by omega), dig_int hu2, div_int hu2]
      simp only [Option.bind_some]
      rw [str_one]
      rw [if_pos (by rw [strOfNums_size, size_mk]; simp only [List.length_singleton]; omega), ih k (u / 10) _ (by rw [Nat.pow_succ] at hu; omega) (by omega) (by omega) (by simp; omega), decD_step h0]
      simp

theorem text_f (n : Int) (h0 : -9223372036854775808 ≤ n) (h1 : n ≤ 9223372036854775807) (k : Nat) (hk : 30 ≤ k) : postluderef01_Text.f k n = some ⟨(itoa n).toArray⟩ := by
  unfold postluderef01_Text.f
  by_cases hz : n = 0
  · subst hz
    rw [if_pos rfl, show (0 : Int) = ((0 : Nat) : Int) from rfl, itoa_nonneg, decDigits_one (by omega)]
    rfl
  rw [if_neg hz]
  obtain ⟨k, rfl⟩ : ∃ m, k = m + 1 := ⟨k - 1, by omega⟩
  simp only [postluderef01_Text.j0]
  by_cases hn : n < 0
  · obtain ⟨u, rfl⟩ : ∃ u : Nat, n = -(u : Int) := ⟨n.natAbs, by omega⟩
    rw [if_pos hn, show IntKind.u64.wrap (-(IntKind.u64.wrap (-(u : Int)))) = (u : Int) from by simp only [u64w]; omega]
    rw [show ((⟨#[]⟩ : ByteArray)) = ⟨([] : List UInt8).toArray⟩ from rfl, text_loop _ 20 k u [] (by omega) (by omega) (by omega) (by simp), itoa_neg u (by omega), if_pos hn, decD, if_neg (by omega)]
    simp
  · obtain ⟨u, rfl⟩ : ∃ u : Nat, n = (u : Int) := ⟨n.toNat, by omega⟩
    rw [if_neg hn, show IntKind.u64.wrap (u : Int) = (u : Int) from by simp only [u64w]; omega]
    rw [show ((⟨#[]⟩ : ByteArray)) = ⟨([] : List UInt8).toArray⟩ from rfl, text_loop _ 20 k u [] (by omega) (by omega) (by omega) (by simp), itoa_nonneg, if_neg hn, decD, if_neg (by omega)]
    simp

/-- The reference's loop over digits. -/
def rl (u : Nat) : List UInt8 → Option Nat
  | [] => some u
  | c :: r => if c.toNat < 48 ∨ 57 < c.toNat ∨ 1152921504606846976 < u then none else rl (10 * u + (c.toNat - 48)) r

theorem rl_digits (u : Nat) : u ≤ 9223372036854775808 → ∀ r, rl 0 (decDigits u ++ r) = rl u r := by
  induction u using Nat.strongRecOn with
  | _ u ih =>
    intro hu r
    rw [decDigits]
    by_cases h : u < 10
    · rw [dif_pos h]
      simp only [List.singleton_append, rl, dig_toNat h]
      rw [if_neg (by omega)]
      simp
    · rw [dif_neg h, List.append_assoc, ih (u / 10) (by omega) (by omega)]
      simp only [List.singleton_append, rl, dig_toNat (show u % 10 < 10 by omega)]
      rw [if_neg (by omega)]
      congr 1
      omega
theorem rl_lt : ∀ (l : List UInt8) (u m : Nat), u < 18446744073709551616 → rl u l = some m → m < 18446744073709551616
  | [], u, m, hu, h => by simp only [rl] at h; cases h; exact hu
  | c :: r, u, m, hu, h => by
    simp only [rl] at h
    split at h
    · cases h
    · exact rl_lt r _ m (by omega) h

/-- What the reference's Parse answers behind the loop. -/
def fin (neg : Bool) (l : List UInt8) : Option Nat → Int × Int
  | none => (0, 12)
  | some m => let n := if neg then wrap64 (-(wrap64 (m : Int))) else wrap64 (m : Int); if itoa n = l then (n, 0) else (0, 12)
theorem wrap_rng (n : Int) : -9223372036854775808 ≤ wrap64 n ∧ wrap64 n ≤ 9223372036854775807 := by unfold wrap64; omega

theorem decDigits_len (d : Nat) : ∀ u, u < 10 ^ (d + 1) → (decDigits u).length ≤ d + 1 := by
  induction d with
  | zero => intro u hu; rw [decDigits, dif_pos (by simpa using hu)]; simp
  | succ d ih =>
    intro u hu
    rw [decDigits]
    split
    · simp
    · have := ih (u / 10) (by rw [Nat.pow_succ] at hu; omega)
      simp; omega
theorem itoa_len {v : Int} (h0 : -9223372036854775808 ≤ v) (h1 : v ≤ 9223372036854775807) : (itoa v).length ≤ 20 ∧ (itoa v).length ≠ 0 := by
  by_cases hv : v < 0
  · obtain ⟨u, rfl⟩ : ∃ u : Nat, v = -(u : Int) := ⟨v.natAbs, by omega⟩
    rw [itoa_neg u (by omega)]
    have := decDigits_len 18 u (by omega)
    simp; omega
  · obtain ⟨u, rfl⟩ : ∃ u : Nat, v = (u : Int) := ⟨v.toNat, by omega⟩
    rw [itoa_nonneg]
    have := decDigits_len 18 u (by omega)
    have := decDigits_ne u
    exact ⟨by omega, by simpa using this⟩

/-- Whatever is no number's text is refused; a number's text is that number. -/
theorem fin_parse (l : List UInt8) : (if l.length = 0 ∨ 20 < l.length then (0, 12) else fin (l.head? == some 45) l (rl 0 (if l.head? == some 45 then l.drop 1 else l))) = parse l := by
  by_cases h : ∃ v : Int, -9223372036854775808 ≤ v ∧ v ≤ 9223372036854775807 ∧ itoa v = l
  · obtain ⟨v, h0, h1, rfl⟩ := h
    have hl := itoa_len h0 h1
    rw [if_neg (by omega), parse_num h0 h1]
    by_cases hv : v < 0
    · obtain ⟨u, rfl⟩ : ∃ u : Nat, v = -(u : Int) := ⟨v.natAbs, by omega⟩
      have e := itoa_neg u (by omega)
      have hr := rl_digits u (by omega) []
      simp only [List.append_nil, rl] at hr
      have hw : wrap64 (-(wrap64 (u : Int))) = -(u : Int) := by unfold wrap64; omega
      rw [e]
      simp only [List.head?_cons, beq_self_eq_true, if_true, List.drop_succ_cons, List.drop_zero, hr, fin, hw, e]
    · obtain ⟨u, rfl⟩ : ∃ u : Nat, v = (u : Int) := ⟨v.toNat, by omega⟩
      have e := itoa_nonneg u
      have hr := rl_digits u (by omega) []
      simp only [List.append_nil, rl] at hr
      obtain ⟨c, r, ec, c1, c2⟩ := decDigits_head u
      have hh : ((decDigits u).head? == some 45) = false := by
        rw [ec]
        simp only [List.head?_cons]
        apply beq_false_of_ne
        intro hc
        have := Option.some.inj hc
        subst this
        simp at c1
      have hw : wrap64 (u : Int) = (u : Int) := by unfold wrap64; omega
      rw [e, hh]
      simp [hr, fin, hw, e]
  · rw [parse_not (fun v a b c => h ⟨v, a, b, c⟩)]
    split
    · rfl
    · cases hr : rl 0 (if l.head? == some 45 then l.drop 1 else l) with
      | none => rfl
      | some m =>
        simp only [fin]
        rw [if_neg]
        intro hc
        have := wrap_rng (m : Int)
        have := wrap_rng (-(wrap64 (m : Int)))
        split at hc
        · exact h ⟨_, by omega, by omega, hc⟩
        · exact h ⟨_, by omega, by omega, hc⟩

theorem bt_get (s : ByteArray) (i : Nat) (h : i < s.size) : bt s (i : Int) = ((s.data.toList[i]'(by simpa using h)).toNat : Int) := by
  unfold bt
  rw [dif_pos (by simpa using h)]
  rfl
theorem rl_cons (u : Nat) (c : UInt8) (r : List UInt8) (h : 48 ≤ c.toNat) (h2 : c.toNat ≤ 57) (h3 : u ≤ 1152921504606846976) : rl u (c :: r) = rl (10 * u + (c.toNat - 48)) r := by
  simp only [rl]; rw [if_neg (by omega)]
theorem rl_bad (u : Nat) (c : UInt8) (r : List UInt8) (h : c.toNat < 48 ∨ 57 < c.toNat ∨ 1152921504606846976 < u) : rl u (c :: r) = none := by
  simp only [rl]; rw [if_pos h]
theorem ext1 (s : ByteArray) : (s.extract 1 s.size).data.toList = s.data.toList.drop 1 := by
  simp only [ByteArray.data_extract, Array.toList_extract, List.extract_eq_take_drop]
  exact List.take_of_length_le (by simp)
theorem toList_mk (l : List UInt8) : (⟨l.toArray⟩ : ByteArray).toList = l := by rw [ByteArray.toList_eq]
theorem fin_text (z : Int) (k : Nat) (s : ByteArray) (h0 : -9223372036854775808 ≤ z) (h1 : z ≤ 9223372036854775807) (hk : 30 ≤ k) :
    ((postluderef01_Text.f k z).bind fun t => if t.toList = s.toList then some (z, 0) else some (0, 12)) = some (if itoa z = s.data.toList then (z, (0 : Int)) else (0, 12)) := by
  rw [text_f z h0 h1 k hk]
  simp only [Option.bind_some]
  rw [toList_mk, ByteArray.toList_eq]
  by_cases hc : itoa z = s.data.toList
  · rw [if_pos hc, if_pos hc]
  · rw [if_neg hc, if_neg hc]
theorem parse_loop (s D : ByteArray) (neg : Bool) (hD : D.size ≤ 1000) (d : Nat) : ∀ (k u i : Nat), i ≤ D.size → D.size - i = d → u < 18446744073709551616 → d + 40 < k →
    postluderef01_Parse.l0 k s neg D u i = some (fin neg s.data.toList (rl u (D.data.toList.drop i))) := by
  induction d with
  | zero =>
    intro k u i hi hd hu hk
    obtain ⟨k, rfl⟩ : ∃ m, k = m + 1 := ⟨k - 1, by omega⟩
    simp only [postluderef01_Parse.l0]
    rw [if_neg (by omega), List.drop_eq_nil_of_le (by simp; omega)]
    simp only [rl, fin]
    have r1 := wrap_rng (u : Int)
    have r2 := wrap_rng (-(wrap64 (u : Int)))
    cases neg
    · simp only [Bool.false_eq_true, if_false]
      generalize wrap64 (u : Int) = z at *
      exact fin_text z k s r1.1 r1.2 (by omega)
    · simp only [if_true]
      generalize wrap64 (-(wrap64 (u : Int))) = z at *
      exact fin_text z k s r2.1 r2.2 (by omega)
  | succ d ih =>
    intro k u i hi hd hu hk
    obtain ⟨k, rfl⟩ : ∃ m, k = m + 1 := ⟨k - 1, by omega⟩
    have hlt : i < D.size := by omega
    simp only [postluderef01_Parse.l0]
    rw [if_pos (by omega), if_pos (by omega), bt_get D i hlt]
    have e : D.data.toList.drop i = D.data.toList[i]'(by simpa using hlt) :: D.data.toList.drop (i + 1) := by
      rw [List.drop_eq_getElem_cons (by simpa using hlt)]
    rw [e]
    generalize D.data.toList[i]'(by simpa using hlt) = c at *
    have hc : c.toNat < 256 := c.toNat_lt
    by_cases h1 : c.toNat < 48
    · rw [if_pos (by omega), rl_bad u c _ (Or.inl h1)]; rfl
    rw [if_neg (by omega)]
    by_cases h2 : 57 < c.toNat
    · rw [if_pos (by omega), rl_bad u c _ (Or.inr (Or.inl h2))]; rfl
    rw [if_neg (by omega)]
    by_cases h3 : 1152921504606846976 < u
    · rw [if_pos (by omega), rl_bad u c _ (Or.inr (Or.inr h3))]; rfl
    rw [if_neg (by omega), rl_cons u c _ (by omega) (by omega) (by omega)]
    have e1 : IntKind.u64.wrap (IntKind.u64.wrap (10 * (u : Int)) + ((c.toNat : Int) - 48) % 256) = ((10 * u + (c.toNat - 48) : Nat) : Int) := by simp only [u64w]; omega
    have e2 : wrap64 ((i : Int) + 1) = ((i + 1 : Nat) : Int) := by unfold wrap64; omega
    rw [e1, e2]
    exact ih k _ (i + 1) (by omega) (by omega) (by omega) (by omega)

/-- The reference's Parse. -/
theorem parse_f (s : ByteArray) (k : Nat) (hk : 100 ≤ k) : postluderef01_Parse.f k s = some (parse s.data.toList) := by
  obtain ⟨k, rfl⟩ : ∃ m, k = m + 2 := ⟨k - 2, by omega⟩
  have hs : s.data.toList.length = s.size := by simp
  rw [← fin_parse, hs]
  unfold postluderef01_Parse.f
  by_cases h0 : s.size = 0
  · rw [if_pos (by omega), if_pos (by omega)]
    simp only [postluderef01_Parse.j0]
    rw [if_pos trivial]
  rw [if_neg (by omega)]
  by_cases h20 : 20 < s.size
  · rw [decide_eq_true (by omega), if_pos (by omega)]
    simp only [postluderef01_Parse.j0]
    rw [if_pos trivial]
  rw [decide_eq_false (by omega), if_neg (by omega)]
  simp only [postluderef01_Parse.j0]
  rw [if_neg (by decide), if_pos (by omega)]
  have hb := bt_get s 0 (by omega)
  simp only [Int.natCast_zero] at hb
  have hh : s.data.toList.head? = some (s.data.toList[0]'(by omega)) := by rw [List.head?_eq_getElem?, List.getElem?_eq_getElem]
  rw [hh, hb]
  generalize s.data.toList[0]'(by omega) = c
  by_cases h45 : c.toNat = 45
  · obtain rfl : c = 45 := UInt8.toNat_inj.1 h45
    rw [if_pos (by decide), if_pos (by omega)]
    simp only [postluderef01_Parse.j1]
    have := parse_loop s (s.extract 1 s.size) true (by simp; omega) _ k 0 0 (by omega) rfl (by omega) (by simp; omega)
    rw [show (s.extract 1 s.size).data.toList = s.data.toList.drop 1 from ext1 s] at this
    exact this
  · have hne : (c == 45) = false := by
      apply beq_false_of_ne
      rintro rfl
      exact h45 rfl
    rw [if_neg (by omega)]
    simp only [postluderef01_Parse.j1]
    have := parse_loop s s false (by omega) _ k 0 0 (by omega) rfl (by omega) (by omega)
    have e : (((c.toNat : Int)) == 45) = false := by
      apply beq_false_of_ne
      omega
    rw [e]
    simpa [hne] using this
end Go.Proofs.YtgmkhbgnlciooaaDoor.PRef
