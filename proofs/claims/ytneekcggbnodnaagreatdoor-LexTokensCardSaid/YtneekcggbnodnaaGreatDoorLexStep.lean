/- What stands next in a text, and its tokens, in plain Lean. -/
import Derived.Test.YtneekcggbnodnaaGreatDoorLexSign
import Derived.Test.YtneekcggbnodnaaGreatDoorParseHex
namespace Go.Proofs.YtneekcggbnodnaaGreatDoor
open Go Go.RowKit Go.Lib
set_option linter.unusedSimpArgs false
set_option linter.unusedVariables false

/-- What a \x stands for. -/
def escHex (a b : UInt8) : Option Nat := if Lib.toLowerD [a, b] = [a, b] then hexPair a b else none
/-- What begins with a stroke: the byte that it stands for, and how many bytes it has. -/
def esc : List UInt8 → Option (UInt8 × Nat)
  | 92 :: 39 :: _ => some (39, 2)
  | 92 :: 92 :: _ => some (92, 2)
  | 92 :: 110 :: _ => some (10, 2)
  | 92 :: 120 :: a :: b :: _ => (escHex a b).map fun m => (UInt8.ofNat m, 4)
  | _ => none
/-- The text that goes on here, with what stands at its end. -/
def textEnd : Nat → List UInt8 → List UInt8 → Option (List UInt8 × List UInt8)
  | 0, _, _ => none
  | _ + 1, _, [] => none
  | f + 1, acc, c :: r =>
    if c = 10 then none else if c = 39 then some (acc, c :: r)
    else if c ≠ 92 then textEnd f (acc ++ [c]) r
    else match esc (c :: r) with
      | none => none
      | some (d, n) => textEnd f (acc ++ [d]) ((c :: r).drop n)

/-- What stands next: no token; so many bytes that are none, with so many line feeds; a token of so many bytes. -/
inductive Step where
  | bad
  | skip (n d : Nat)
  | tok (k : Int) (t : List UInt8) (x : Int) (n : Nat)
def nameStep (L : List UInt8) : Step :=
  if wordB (L.take (spanL partB L)) then .tok 2 (L.take (spanL partB L)) 0 (spanL partB L)
  else if nameB (L.take (spanL partB L)) then .tok 1 (L.take (spanL partB L)) 0 (spanL partB L) else .bad
def varStep (r : List UInt8) : Step :=
  if nameB (r.take (spanL partB r)) then .tok 3 (r.take (spanL partB r)) 0 (1 + spanL partB r) else .bad
def numStep (L : List UInt8) : Step := match numV (L.take (spanL digitB L)) with
  | some u => .tok 4 (L.take (spanL digitB L)) (wrap64 u) (spanL digitB L)
  | none => .bad
def textStep (r : List UInt8) : Step := match textEnd (r.length + 2) [] r with
  | some (o, q) => .tok 5 o 0 (r.length + 2 - q.length)
  | none => .bad
def signStep (L : List UInt8) : Step := if signN L = 0 then .bad else .tok 6 (L.take (signN L)) 0 (signN L)
def step : List UInt8 → Step
  | [] => .bad
  | c :: r =>
    if c = 10 then .skip 1 1
    else if c = 32 ∨ c = 9 ∨ c = 13 then .skip 1 0
    else if Lib.hasPrefix (c :: r) [47, 47] then .skip (spanL lineB (c :: r)) 0
    else if headB c then nameStep (c :: r)
    else if c = 36 then varStep r
    else if digitB c then numStep (c :: r)
    else if c = 39 then textStep r
    else signStep (c :: r)
/-- The tokens, or the line where none begins. -/
def lexF : Nat → List UInt8 → Int → Int ⊕ List Tk
  | 0, _, _ => .inr []
  | f + 1, L, line => if L = [] then .inr [] else match step L with
    | .bad => .inl line
    | .skip n d => lexF f (L.drop n) (line + d)
    | .tok k t x n => match lexF f (L.drop n) line with
      | .inl e => .inl e
      | .inr l => .inr (⟨k, ⟨t.toArray⟩, x, line⟩ :: l)
def lexL (L : List UInt8) : Int ⊕ List Tk := lexF L.length L 0
def feeds (l : List UInt8) : Nat := l.count 10

/-! Spans -/
theorem take_span (p : UInt8 → Bool) (l : List UInt8) : l.take (spanL p l) = l.takeWhile p := by
  induction l with
  | nil => rfl
  | cons c r ih =>
    by_cases h : p c = true
    · simp only [spanL, List.takeWhile_cons, h, if_true, List.length_cons, List.take_succ_cons]
      rw [show (r.takeWhile p).length = spanL p r from rfl, ih]
    · simp [spanL, List.takeWhile_cons, h]
theorem while_stop {p : UInt8 → Bool} {c : UInt8} (h : p c = false) (A B : List UInt8) : (A ++ c :: B).takeWhile p = A.takeWhile p := by
  induction A with
  | nil => simp [List.takeWhile_cons, h]
  | cons a A ih =>
    by_cases ha : p a = true
    · simp [List.takeWhile_cons, ha, ih]
    · simp [List.takeWhile_cons, ha]
theorem span_stop {p : UInt8 → Bool} {c : UInt8} (h : p c = false) (A B : List UInt8) : spanL p (A ++ c :: B) = spanL p A := by
  rw [spanL, while_stop h]; rfl
theorem span_all {p : UInt8 → Bool} {A : List UInt8} (h : ∀ x ∈ A, p x = true) : spanL p A = A.length := by
  induction A with
  | nil => rfl
  | cons a A ih =>
    have := ih (fun x hx => h x (List.mem_cons_of_mem _ hx))
    simp only [spanL, List.takeWhile_cons, h a List.mem_cons_self, if_true, List.length_cons] at this ⊢
    rw [this]
theorem while_mem {p : UInt8 → Bool} {A : List UInt8} : ∀ x ∈ A.takeWhile p, p x = true := by
  induction A with
  | nil => simp
  | cons a A ih =>
    by_cases ha : p a = true
    · rw [List.takeWhile_cons_of_pos ha]
      intro x hx
      rcases List.mem_cons.1 hx with rfl | hx
      · exact ha
      · exact ih x hx
    · rw [List.takeWhile_cons_of_neg ha]
      simp
theorem feeds_none {p : UInt8 → Bool} (h : p 10 = false) (A : List UInt8) : feeds (A.takeWhile p) = 0 := by
  rw [feeds, List.count_eq_zero]
  intro hm
  rw [while_mem _ hm] at h
  cases h
theorem nameStep_local {c : UInt8} (h : partB c = false) (A B : List UInt8) : nameStep (A ++ c :: B) = nameStep A := by
  simp only [nameStep, take_span, while_stop h]
  rw [span_stop h]
theorem varStep_local {c : UInt8} (h : partB c = false) (A B : List UInt8) : varStep (A ++ c :: B) = varStep A := by
  simp only [varStep, take_span, while_stop h]
  rw [span_stop h]
theorem numStep_local {c : UInt8} (h : digitB c = false) (A B : List UInt8) : numStep (A ++ c :: B) = numStep A := by
  simp only [numStep, take_span, while_stop h]
  rw [span_stop h]
theorem signFrom_local {c : UInt8} (h : ∀ w ∈ signList, c ∉ w) (A B : List UInt8) : ∀ k, k ≤ A.length + 1 + B.length → signFrom k (A ++ c :: B) = signFrom (min k A.length) A := by
  intro k hk
  induction k with
  | zero => simp [signFrom]
  | succ k ih =>
    by_cases hl : k + 1 ≤ A.length
    · rw [Nat.min_eq_left hl, signFrom, signFrom, List.take_append_of_le_length hl, ih (by omega), Nat.min_eq_left (by omega)]
    · rw [Nat.min_eq_right (by omega), signFrom, ih (by omega), Nat.min_eq_right (by omega)]
      have : signB ((A ++ c :: B).take (k + 1)) = false := by
        rw [Bool.eq_false_iff]
        intro hc
        have hm : (A ++ c :: B).take (k + 1) ∈ signList := by simpa [signB] using hc
        refine h _ hm ?_
        rw [List.take_append, List.mem_append]
        right
        obtain ⟨j, hj⟩ : ∃ j, k + 1 - A.length = j + 1 := ⟨k - A.length, by omega⟩
        rw [hj]
        simp
      rw [this]
      rfl
theorem signFrom_min (A : List UInt8) : ∀ k, signFrom k A ≤ k := by
  intro k
  induction k with
  | zero => simp [signFrom]
  | succ k ih =>
    rw [signFrom]
    split <;> omega
theorem sign_long : ∀ w ∈ signList, w.length ≤ 3 := by decide
theorem signN_local {c : UInt8} (h : ∀ w ∈ signList, c ∉ w) (A B : List UInt8) : signN (A ++ c :: B) = signN A := by
  rw [signN, signN, signFrom_local h _ _ _ (by simp; omega)]
  congr 1
  simp
theorem signN_le (L : List UInt8) : signN L ≤ L.length := Nat.le_trans (signFrom_min _ _) (Nat.min_le_right _ _)
theorem signStep_local {c : UInt8} (h : ∀ w ∈ signList, c ∉ w) (A B : List UInt8) : signStep (A ++ c :: B) = signStep A := by
  simp only [signStep, signN_local h]
  rw [List.take_append_of_le_length (signN_le A)]

/-! Texts -/
/-- A digit's worth, small letters alone. -/
def hexL (c : UInt8) : Option Nat :=
  if 48 ≤ c.toNat ∧ c.toNat ≤ 57 then some (c.toNat - 48) else if 97 ≤ c.toNat ∧ c.toNat ≤ 102 then some (c.toNat - 87) else none
theorem hexv_cases : ∀ c : Fin 256, (hexv (UInt8.ofNat c) = none → hexL (UInt8.ofNat c) = none) ∧ (hexv (UInt8.ofNat c) ≠ none → c.val < 128 ∧ ((lowerB (UInt8.ofNat c) = UInt8.ofNat c) → hexL (UInt8.ofNat c) = hexv (UInt8.ofNat c)) ∧ (lowerB (UInt8.ofNat c) ≠ UInt8.ofNat c → hexL (UInt8.ofNat c) = none)) := by decide +kernel
theorem hexv_none {c : UInt8} (h : hexv c = none) : hexL c = none := by
  have := (hexv_cases ⟨c.toNat, c.toNat_lt⟩).1
  simp only [UInt8.ofNat_toNat] at this
  exact this h
theorem hexv_some {c : UInt8} {x : Nat} (h : hexv c = some x) : c.toNat < 128 ∧ (lowerB c = c → hexL c = some x) ∧ (lowerB c ≠ c → hexL c = none) := by
  have := (hexv_cases ⟨c.toNat, c.toNat_lt⟩).2
  simp only [UInt8.ofNat_toNat] at this
  rw [h] at this
  exact this (by simp)
def hexLP (a b : UInt8) : Option Nat := match hexL a, hexL b with | some x, some y => some (x * 16 + y) | _, _ => none
theorem escHex_eq (a b : UInt8) : escHex a b = hexLP a b := by
  unfold escHex hexPair hexLP
  rcases ha : hexv a with _ | x
  · simp [hexv_none ha]
  · rcases hb : hexv b with _ | y
    · simp only [hexv_none hb]
      rcases hexL a with _ | _ <;> simp
    · obtain ⟨a1, a2, a3⟩ := hexv_some ha
      obtain ⟨b1, b2, b3⟩ := hexv_some hb
      have hl : Lib.toLowerD [a, b] = [lowerB a, lowerB b] := by
        rw [toLowerD_ascii _ (by intro x hx; simp at hx; rcases hx with rfl | rfl <;> assumption)]
        rfl
      rw [hl]
      by_cases e1 : lowerB a = a
      · by_cases e2 : lowerB b = b
        · simp [e1, e2, a2 e1, b2 e2]
        · simp [e1, e2, a2 e1, b3 e2]
      · simp [e1, a3 e1]
theorem hexL_ten : hexL 10 = none := by decide
theorem hexL_ne {c : UInt8} {x : Nat} (h : hexL c = some x) : c ≠ 10 := by
  rintro rfl
  rw [hexL_ten] at h
  cases h
theorem esc_le {L : List UInt8} {d : UInt8} {n : Nat} (h : esc L = some (d, n)) : 2 ≤ n ∧ n ≤ L.length ∧ feeds (L.take n) = 0 := by
  unfold esc at h
  split at h
  · cases h; exact ⟨by omega, by simp, by simp [feeds]⟩
  · cases h; exact ⟨by omega, by simp, by simp [feeds]⟩
  · cases h; exact ⟨by omega, by simp, by simp [feeds]⟩
  · rename_i a b r
    rw [escHex_eq] at h
    unfold hexLP at h
    rcases ha : hexL a with _ | x
    · simp [ha] at h
    · rcases hb : hexL b with _ | y
      · simp [ha, hb] at h
      · simp [ha, hb] at h
        obtain ⟨_, rfl⟩ := h
        have a1 := hexL_ne ha
        have b1 := hexL_ne hb
        refine ⟨by omega, by simp, ?_⟩
        simp [feeds, List.count_cons, a1, b1]
  · cases h
theorem hexLP_ten_l (b : UInt8) : hexLP 10 b = none := by simp [hexLP, hexL_ten]
theorem hexLP_ten_r (a : UInt8) : hexLP a 10 = none := by
  unfold hexLP
  rw [hexL_ten]
  rcases hexL a <;> rfl
theorem esc_one (B : List UInt8) : esc (92 :: 10 :: B) = none := by unfold esc; split <;> simp_all
theorem esc_local (r B : List UInt8) : esc (92 :: (r ++ 10 :: B)) = esc (92 :: r) := by
  rcases r with _ | ⟨d, r⟩
  · rw [List.nil_append, esc_one]; rfl
  · by_cases h1 : d = 39
    · subst h1; rfl
    · by_cases h2 : d = 92
      · subst h2; rfl
      · by_cases h3 : d = 110
        · subst h3; rfl
        · by_cases h4 : d = 120
          · subst h4
            rcases r with _ | ⟨a, _ | ⟨b, r⟩⟩
            · rcases B with _ | ⟨b, B⟩
              · rfl
              · show (escHex 10 b).map _ = none
                rw [escHex_eq, hexLP_ten_l]; rfl
            · show (escHex a 10).map _ = none
              rw [escHex_eq, hexLP_ten_r]; rfl
            · rfl
          · have : ∀ X, esc (92 :: d :: X) = none := by
              intro X
              unfold esc
              split <;> simp_all
            rw [List.cons_append, this, this]
theorem textEnd_local (B : List UInt8) : ∀ (m : Nat) (A : List UInt8), A.length ≤ m → ∀ (f f' : Nat) (acc : List UInt8), A.length < f → A.length < f' →
    textEnd f acc (A ++ 10 :: B) = (textEnd f' acc A).map fun x => (x.1, x.2 ++ 10 :: B) := by
  intro m
  induction m with
  | zero =>
    intro A hA f f' acc hf hf'
    obtain rfl : A = [] := List.eq_nil_of_length_eq_zero (by omega)
    obtain ⟨f, rfl⟩ : ∃ g, f = g + 1 := ⟨f - 1, by simp at hf; omega⟩
    obtain ⟨f', rfl⟩ : ∃ g, f' = g + 1 := ⟨f' - 1, by simp at hf'; omega⟩
    simp [textEnd]
  | succ m ih =>
    intro A hA f f' acc hf hf'
    obtain ⟨f, rfl⟩ : ∃ g, f = g + 1 := ⟨f - 1, by omega⟩
    obtain ⟨f', rfl⟩ : ∃ g, f' = g + 1 := ⟨f' - 1, by omega⟩
    rcases A with _ | ⟨c, r⟩
    · simp [textEnd]
    · simp only [List.length_cons] at hA hf hf'
      rw [List.cons_append, textEnd, textEnd]
      by_cases h10 : c = 10
      · simp [h10]
      · by_cases h39 : c = 39
        · simp [h39]
        · by_cases h92 : c = 92
          · subst h92
            simp only [h10, h39, if_false, ne_eq, not_true_eq_false]
            rw [esc_local]
            rcases he : esc (92 :: r) with _ | ⟨d, n⟩
            · rfl
            · obtain ⟨h2, hn, _⟩ := esc_le he
              simp only []
              rw [← List.cons_append, List.drop_append_of_le_length hn]
              have hl : ((92 :: r).drop n).length + n = r.length + 1 := by rw [List.length_drop, List.length_cons] at *; omega
              exact ih _ (by omega) f f' _ (by omega) (by omega)
          · simp only [h10, h39, if_false, ne_eq, h92, not_false_eq_true, if_true]
            exact ih _ (by omega) f f' _ (by omega) (by omega)
theorem textEnd_fuel : ∀ (m : Nat) (A : List UInt8), A.length ≤ m → ∀ (f f' : Nat) (acc : List UInt8), A.length < f → A.length < f' → textEnd f acc A = textEnd f' acc A := by
  intro m
  induction m with
  | zero =>
    intro A hA f f' acc hf hf'
    obtain rfl : A = [] := List.eq_nil_of_length_eq_zero (by omega)
    obtain ⟨f, rfl⟩ : ∃ g, f = g + 1 := ⟨f - 1, by simp at hf; omega⟩
    obtain ⟨f', rfl⟩ : ∃ g, f' = g + 1 := ⟨f' - 1, by simp at hf'; omega⟩
    simp [textEnd]
  | succ m ih =>
    intro A hA f f' acc hf hf'
    obtain ⟨f, rfl⟩ : ∃ g, f = g + 1 := ⟨f - 1, by omega⟩
    obtain ⟨f', rfl⟩ : ∃ g, f' = g + 1 := ⟨f' - 1, by omega⟩
    rcases A with _ | ⟨c, r⟩
    · simp [textEnd]
    · simp only [List.length_cons] at hA hf hf'
      rw [textEnd, textEnd]
      by_cases h10 : c = 10
      · simp [h10]
      · by_cases h39 : c = 39
        · simp [h39]
        · by_cases h92 : c = 92
          · subst h92
            simp only [h10, h39, if_false, ne_eq, not_true_eq_false]
            rcases he : esc (92 :: r) with _ | ⟨d, n⟩
            · rfl
            · obtain ⟨h2, hn, _⟩ := esc_le he
              simp only []
              have hl : ((92 :: r).drop n).length + n = r.length + 1 := by rw [List.length_drop, List.length_cons] at *; omega
              exact ih _ (by omega) f f' _ (by omega) (by omega)
          · simp only [h10, h39, if_false, ne_eq, h92, not_false_eq_true, if_true]
            exact ih _ (by omega) f f' _ (by omega) (by omega)
theorem feeds_append (a b : List UInt8) : feeds (a ++ b) = feeds a + feeds b := by simp [feeds]
/-- What a text's end says. -/
theorem textEnd_some : ∀ (m : Nat) (A : List UInt8), A.length ≤ m → ∀ (f : Nat) (acc o q : List UInt8), textEnd f acc A = some (o, q) → ∃ u q', A = u ++ q ∧ q = 39 :: q' ∧ feeds u = 0 ∧ o.length ≤ acc.length + u.length := by
  intro m
  induction m with
  | zero =>
    intro A hA f acc o q h
    obtain rfl : A = [] := List.eq_nil_of_length_eq_zero (by omega)
    rcases f with _ | f <;> simp [textEnd] at h
  | succ m ih =>
    intro A hA f acc o q h
    rcases f with _ | f
    · simp [textEnd] at h
    · rcases A with _ | ⟨c, r⟩
      · simp [textEnd] at h
      · simp only [List.length_cons] at hA
        rw [textEnd] at h
        by_cases h10 : c = 10
        · simp [h10] at h
        · by_cases h39 : c = 39
          · subst h39
            simp at h
            obtain ⟨rfl, rfl⟩ := h
            exact ⟨[], r, rfl, rfl, rfl, by simp⟩
          · by_cases h92 : c = 92
            · subst h92
              simp only [h10, h39, if_false, ne_eq, not_true_eq_false] at h
              rcases he : esc (92 :: r) with _ | ⟨d, n⟩
              · rw [he] at h; cases h
              · rw [he] at h
                simp only [] at h
                obtain ⟨h2, hn, hfd⟩ := esc_le he
                have hl : ((92 :: r).drop n).length + n = r.length + 1 := by rw [List.length_drop, List.length_cons] at *; omega
                obtain ⟨u, q', e1, e2, e3, e4⟩ := ih _ (by omega) f _ o q h
                refine ⟨(92 :: r).take n ++ u, q', ?_, e2, ?_, ?_⟩
                · rw [List.append_assoc, ← e1, List.take_append_drop]
                · rw [feeds_append, hfd, e3]
                · rw [List.length_append, List.length_take, Nat.min_eq_left hn]
                  simp at e4
                  omega
            · simp only [h10, h39, if_false, ne_eq, h92, not_false_eq_true, if_true] at h
              obtain ⟨u, q', e1, e2, e3, e4⟩ := ih _ (by omega) f _ o q h
              refine ⟨c :: u, q', by rw [e1]; rfl, e2, ?_, ?_⟩
              · simp only [feeds, List.count_cons] at e3 ⊢
                simp [e3, h10]
              · simp at e4 ⊢
                omega
theorem textStep_local (A B : List UInt8) : textStep (A ++ 10 :: B) = textStep A := by
  unfold textStep
  rw [textEnd_local B A.length A (Nat.le_refl _) _ (A.length + 2) [] (by simp; omega) (by omega)]
  rcases h : textEnd (A.length + 2) [] A with _ | ⟨o, q⟩
  · rfl
  · simp only [Option.map_some]
    congr 1
    simp
    omega
theorem pre_local (c d : UInt8) (hd : d ≠ 47) (A B : List UInt8) : Lib.hasPrefix (c :: (A ++ d :: B)) [47, 47] = Lib.hasPrefix (c :: A) [47, 47] := by
  rcases A with _ | ⟨a, A⟩
  · simp [Lib.hasPrefix, List.isPrefixOf, Ne.symm hd]
  · simp [Lib.hasPrefix, List.isPrefixOf]
/-- What stands next does not look behind a line feed. -/
theorem step_local (A B : List UInt8) (h : A ≠ []) : step (A ++ 10 :: B) = step A := by
  rcases A with _ | ⟨c, r⟩
  · exact absurd rfl h
  · rw [List.cons_append, step, step, pre_local c 10 (by decide), ← List.cons_append, span_stop (by decide), nameStep_local (by decide), varStep_local (by decide), numStep_local (by decide), textStep_local, signStep_local (by decide)]
end Go.Proofs.YtneekcggbnodnaaGreatDoor
