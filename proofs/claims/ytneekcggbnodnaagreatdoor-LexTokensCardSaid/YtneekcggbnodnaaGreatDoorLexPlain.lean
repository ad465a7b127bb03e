/- Tokens, in plain Lean: what a step takes; two texts with a line feed between; lines; tokens spelt; texts quoted. -/
import Derived.Test.YtneekcggbnodnaaGreatDoorLexStep
namespace Go.Proofs.YtneekcggbnodnaaGreatDoor
open Go Go.RowKit Go.Lib
set_option linter.unusedSimpArgs false
set_option linter.unusedVariables false

/-! Quoted texts -/
def hexDig (n : Nat) : UInt8 := if n < 10 then UInt8.ofNat (48 + n) else UInt8.ofNat (87 + n)
def quote1 (c : UInt8) : List UInt8 :=
  if c = 39 ∨ c = 92 then [92, c] else if c.toNat < 32 ∨ 126 < c.toNat then [92, 120, hexDig (c.toNat / 16), hexDig (c.toNat % 16)] else [c]
def quoteL (l : List UInt8) : List UInt8 := 39 :: (l.flatMap quote1 ++ [39])
def spell (k : Int) (t : List UInt8) : List UInt8 := if k = 3 then 36 :: t else if k = 5 then quoteL t else t
theorem hexLP_dig : ∀ c : Fin 256, hexLP (hexDig (c.val / 16)) (hexDig (c.val % 16)) = some c.val := by decide +kernel
theorem quote1_len (c : UInt8) : 1 ≤ (quote1 c).length ∧ (quote1 c).length ≤ 4 := by
  unfold quote1
  split
  · simp
  · split <;> simp
theorem quoteL_len (l : List UInt8) : (quoteL l).length ≤ 4 * l.length + 2 := by
  have : ∀ l : List UInt8, (l.flatMap quote1).length ≤ 4 * l.length := by
    intro l
    induction l with
    | nil => simp
    | cons c r ih => rw [List.flatMap_cons, List.length_append, List.length_cons]; have := (quote1_len c).2; omega
  have := this l
  simp only [quoteL, List.length_cons, List.length_append, List.length_nil]
  omega
theorem textEnd_quote (X : List UInt8) : ∀ (l : List UInt8) (f : Nat) (acc : List UInt8), (l.flatMap quote1).length < f → textEnd f acc (l.flatMap quote1 ++ 39 :: X) = some (acc ++ l, 39 :: X) := by
  intro l
  induction l with
  | nil =>
    intro f acc hf
    obtain ⟨f, rfl⟩ : ∃ g, f = g + 1 := ⟨f - 1, by simp at hf; omega⟩
    simp [textEnd]
  | cons c r ih =>
    intro f acc hf
    obtain ⟨f, rfl⟩ : ∃ g, f = g + 1 := ⟨f - 1, by omega⟩
    rw [List.flatMap_cons, List.length_append] at hf
    rw [List.flatMap_cons, List.append_assoc]
    have hq := (quote1_len c).1
    have ih' := ih f (acc ++ [c]) (by omega)
    rw [List.append_assoc, List.singleton_append] at ih'
    rw [show quote1 c = if c = 39 ∨ c = 92 then [92, c] else if c.toNat < 32 ∨ 126 < c.toNat then [92, 120, hexDig (c.toNat / 16), hexDig (c.toNat % 16)] else [c] from rfl]
    by_cases h1 : c = 39 ∨ c = 92
    · rw [if_pos h1]
      have he : esc (92 :: c :: (r.flatMap quote1 ++ 39 :: X)) = some (c, 2) := by
        rcases h1 with rfl | rfl <;> rfl
      simp only [List.cons_append, List.nil_append]
      rw [textEnd]
      simp only [show (92 : UInt8) ≠ 10 by decide, show (92 : UInt8) ≠ 39 by decide, if_false, ne_eq, not_true_eq_false, he]
      exact ih'
    · rw [if_neg h1]
      by_cases h2 : c.toNat < 32 ∨ 126 < c.toNat
      · rw [if_pos h2]
        have he : esc (92 :: 120 :: hexDig (c.toNat / 16) :: hexDig (c.toNat % 16) :: (r.flatMap quote1 ++ 39 :: X)) = some (c, 4) := by
          show (escHex _ _).map _ = _
          rw [escHex_eq, hexLP_dig ⟨c.toNat, c.toNat_lt⟩]
          simp
        simp only [List.cons_append, List.nil_append]
        rw [textEnd]
        simp only [show (92 : UInt8) ≠ 10 by decide, show (92 : UInt8) ≠ 39 by decide, if_false, ne_eq, not_true_eq_false, he]
        exact ih'
      · rw [if_neg h2]
        have h10 : c ≠ 10 := by rintro rfl; exact h2 (.inl (by decide))
        simp only [not_or] at h1
        simp only [List.cons_append, List.nil_append]
        rw [textEnd]
        simp only [h10, h1.1, h1.2, if_false, ne_eq, not_false_eq_true, if_true]
        exact ih'
theorem textStep_quote (l X : List UInt8) : textStep (l.flatMap quote1 ++ 39 :: X) = .tok 5 l 0 (quoteL l).length := by
  unfold textStep
  rw [textEnd_quote X l _ [] (by simp; omega)]
  simp only [List.nil_append]
  congr 1
  simp [quoteL]
  omega
theorem step_quote (l X : List UInt8) : step (quoteL l ++ X) = .tok 5 l 0 (quoteL l).length := by
  have e : quoteL l ++ X = 39 :: (l.flatMap quote1 ++ 39 :: X) := by simp [quoteL]
  rw [e, step, textStep_quote]
  have hp : Lib.hasPrefix (39 :: (l.flatMap quote1 ++ 39 :: X)) [47, 47] = false := by simp [Lib.hasPrefix, List.isPrefixOf]
  rw [hp]
  simp [show headB 39 = false by decide, show digitB 39 = false by decide]

/-! What a step takes -/
/-- What a token is. -/
def Good (k : Int) (t : List UInt8) (x : Int) : Prop :=
  k = 1 ∧ nameB t = true ∧ x = 0 ∨ k = 2 ∧ wordB t = true ∧ x = 0 ∨ k = 3 ∧ nameB t = true ∧ x = 0 ∨
  k = 4 ∧ (∀ b ∈ t, digitB b = true) ∧ t ≠ [] ∧ (∃ u, numV t = some u ∧ x = wrap64 u) ∨ k = 5 ∧ x = 0 ∨ k = 6 ∧ signB t = true ∧ x = 0
theorem feeds_while {p : UInt8 → Bool} (h : p 10 = false) (A : List UInt8) : feeds (A.take (spanL p A)) = 0 := by
  rw [take_span]; exact feeds_none h A
theorem span_pos {p : UInt8 → Bool} {c : UInt8} {r : List UInt8} (h : p c = true) : 1 ≤ spanL p (c :: r) := by
  simp [spanL, List.takeWhile_cons, h]
theorem head_part {c : UInt8} (h : headB c = true) : partB c = true := by simp [partB, h]
theorem sign_feeds : ∀ w ∈ signList, feeds w = 0 := by decide
theorem signFrom_sign (L : List UInt8) : ∀ k, k ≤ L.length → signFrom k L ≠ 0 → signB (L.take (signFrom k L)) = true := by
  intro k
  induction k with
  | zero => intro _ h; simp [signFrom] at h
  | succ k ih =>
    intro hk h
    rw [signFrom] at h ⊢
    split
    · assumption
    · rename_i hs
      rw [if_neg hs] at h
      exact ih (by omega) h
theorem signN_sign (L : List UInt8) (h : signN L ≠ 0) : signB (L.take (signN L)) = true := signFrom_sign L _ (Nat.min_le_right _ _) h

/-- What a step takes: some bytes, just so many line feeds; what a token is, and how much it is spelt. -/
def StepOk (L : List UInt8) : Step → Prop
  | .bad => True
  | .skip n d => 1 ≤ n ∧ n ≤ L.length ∧ feeds (L.take n) = d
  | .tok k t x n => 1 ≤ n ∧ n ≤ L.length ∧ feeds (L.take n) = 0 ∧ Good k t x ∧ (spell k t).length + 1 ≤ 8 * n
theorem step_ok (L : List UInt8) : StepOk L (step L) := by
  rcases L with _ | ⟨c, r⟩
  · exact trivial
  · rw [step]
    split
    · rename_i h; subst h; exact ⟨by omega, by simp, by simp [feeds]⟩
    · rename_i h10
      split
      · rename_i h
        refine ⟨by omega, by simp, ?_⟩
        rcases h with rfl | rfl | rfl <;> simp [feeds]
      · rename_i hbl
        split
        · rename_i hp
          have hc : c = 47 := by
            rcases r with _ | ⟨d, r⟩
            · simp [Lib.hasPrefix, List.isPrefixOf] at hp
            · simp [Lib.hasPrefix, List.isPrefixOf] at hp; exact hp.1.symm
          subst hc
          exact ⟨span_pos (by decide), spanL_le _ _, feeds_while (by decide) _⟩
        · split
          · rename_i hh
            unfold nameStep
            have hl := spanL_le partB (c :: r)
            have hs : ((c :: r).take (spanL partB (c :: r))).length = spanL partB (c :: r) := by rw [List.length_take, Nat.min_eq_left hl]
            have h1 := span_pos (r := r) (head_part hh)
            split
            · rename_i hw
              refine ⟨h1, hl, feeds_while (by decide) _, .inr (.inl ⟨rfl, hw, rfl⟩), ?_⟩
              rw [spell, if_neg (by decide), if_neg (by decide), hs]; omega
            · split
              · rename_i hn
                refine ⟨h1, hl, feeds_while (by decide) _, .inl ⟨rfl, hn, rfl⟩, ?_⟩
                rw [spell, if_neg (by decide), if_neg (by decide), hs]; omega
              · exact trivial
          · split
            · rename_i h36
              subst h36
              unfold varStep
              have hl := spanL_le partB r
              have hs : (r.take (spanL partB r)).length = spanL partB r := by rw [List.length_take, Nat.min_eq_left hl]
              split
              · rename_i hn
                refine ⟨by omega, by simp; omega, ?_, .inr (.inr (.inl ⟨rfl, hn, rfl⟩)), ?_⟩
                · rw [Nat.add_comm 1, List.take_succ_cons, show ∀ l, feeds (36 :: l) = feeds l by intro l; simp [feeds]]
                  exact feeds_while (by decide) _
                · rw [spell, if_pos rfl, List.length_cons, hs]; omega
              · exact trivial
            · split
              · rename_i hd
                unfold numStep
                have hl := spanL_le digitB (c :: r)
                have hs : ((c :: r).take (spanL digitB (c :: r))).length = spanL digitB (c :: r) := by rw [List.length_take, Nat.min_eq_left hl]
                have h1 := span_pos (r := r) hd
                split
                · rename_i u hu
                  refine ⟨h1, hl, feeds_while (by decide) _, .inr (.inr (.inr (.inl ⟨rfl, ?_, ?_, u, hu, rfl⟩))), ?_⟩
                  · rw [take_span]; exact while_mem
                  · intro e; rw [e] at hs; simp at hs; omega
                  · rw [spell, if_neg (by decide), if_neg (by decide), hs]; omega
                · exact trivial
              · split
                · rename_i h39
                  subst h39
                  unfold textStep
                  split
                  · rename_i o q hq
                    obtain ⟨u, q', e1, e2, e3, e4⟩ := textEnd_some r.length r (Nat.le_refl _) _ _ _ _ hq
                    have hlen : r.length = u.length + q.length := by rw [e1, List.length_append]
                    have hql : q.length = q'.length + 1 := by rw [e2, List.length_cons]
                    have hql2 := quoteL_len o
                    simp only [List.length_nil, Nat.zero_add] at e4
                    refine ⟨by omega, by rw [List.length_cons]; omega, ?_, .inr (.inr (.inr (.inr (.inl ⟨rfl, rfl⟩)))), ?_⟩
                    · have ht : (39 :: r).take (r.length + 2 - q.length) = 39 :: (u ++ [39]) := by
                        rw [hlen, show u.length + q.length + 2 - q.length = u.length + 1 + 1 by omega, List.take_succ_cons, e1, e2, List.take_append, List.take_of_length_le (by omega), show u.length + 1 - u.length = 1 by omega]
                        rfl
                      rw [ht]
                      simp only [feeds, List.count_cons, List.count_append, List.count_nil] at e3 ⊢
                      rw [e3]
                      decide
                    · rw [spell, if_neg (by decide), if_pos rfl]; omega
                  · exact trivial
                · unfold signStep
                  split
                  · exact trivial
                  · rename_i hs0
                    have hl := signN_le (c :: r)
                    have hb := signN_sign _ hs0
                    have hs : ((c :: r).take (signN (c :: r))).length = signN (c :: r) := by rw [List.length_take, Nat.min_eq_left hl]
                    refine ⟨by omega, hl, sign_feeds _ (by simpa [signB] using hb), .inr (.inr (.inr (.inr (.inr ⟨rfl, hb, rfl⟩)))), ?_⟩
                    rw [spell, if_neg (by decide), if_neg (by decide), hs]; omega

/-! All tokens -/
theorem drop_len {L : List UInt8} {n m : Nat} (h : 1 ≤ n) (hn : n ≤ L.length) (hm : L.length ≤ m + 1) : (L.drop n).length ≤ m := by
  rw [List.length_drop]; omega
theorem lexF_nil (f : Nat) (line : Int) : lexF f [] line = .inr [] := by
  cases f <;> simp [lexF]
theorem lexF_fuel : ∀ (f f' : Nat) (L : List UInt8) (line : Int), L.length ≤ f → L.length ≤ f' → lexF f L line = lexF f' L line := by
  intro f
  induction f with
  | zero =>
    intro f' L line h _
    obtain rfl : L = [] := List.eq_nil_of_length_eq_zero (by omega)
    rw [lexF_nil, lexF_nil]
  | succ f ih =>
    intro f' L line h h'
    by_cases hL : L = []
    · subst hL; rw [lexF_nil, lexF_nil]
    · have hpos : 1 ≤ L.length := by
        rcases L with _ | ⟨c, r⟩
        · exact absurd rfl hL
        · simp
      obtain ⟨f', rfl⟩ : ∃ g, f' = g + 1 := ⟨f' - 1, by omega⟩
      rw [lexF, lexF, if_neg hL, if_neg hL]
      have ok := step_ok L
      rcases hs : step L with _ | ⟨n, d⟩ | ⟨k, t, x, n⟩
      · rfl
      · rw [hs] at ok
        exact ih f' _ _ (drop_len ok.1 ok.2.1 h) (drop_len ok.1 ok.2.1 h')
      · rw [hs] at ok
        simp only []
        rw [ih f' _ _ (drop_len ok.1 ok.2.1 h) (drop_len ok.1 ok.2.1 h')]
def Tk.up (d : Int) (t : Tk) : Tk := { t with line := t.line + d }
def upR (d : Int) : Int ⊕ List Tk → Int ⊕ List Tk
  | .inl e => .inl (e + d)
  | .inr l => .inr (l.map (Tk.up d))
theorem lexF_line (d : Int) : ∀ (f : Nat) (L : List UInt8) (line : Int), lexF f L (line + d) = upR d (lexF f L line) := by
  intro f
  induction f with
  | zero => intro L line; rfl
  | succ f ih =>
    intro L line
    rw [lexF, lexF]
    by_cases hL : L = []
    · rw [if_pos hL, if_pos hL]; rfl
    · rw [if_neg hL, if_neg hL]
      rcases hs : step L with _ | ⟨n, e⟩ | ⟨k, t, x, n⟩
      · rfl
      · simp only []
        rw [show line + d + (e : Int) = line + e + d by omega, ih]
      · simp only []
        rw [ih]
        rcases lexF f (L.drop n) line with e | l <;> rfl
def thenR (l : List Tk) : Int ⊕ List Tk → Int ⊕ List Tk
  | .inl e => .inl e
  | .inr m => .inr (l ++ m)
theorem feeds_drop {L : List UInt8} {n d : Nat} (h : feeds (L.take n) = d) : feeds L = d + feeds (L.drop n) := by
  conv => lhs; rw [← List.take_append_drop n L]
  rw [feeds_append, h]
theorem lexF_join (B : List UInt8) : ∀ (f g : Nat) (A : List UInt8) (line : Int), A.length ≤ f → A.length + 1 + B.length ≤ g →
    lexF g (A ++ 10 :: B) line = match lexF f A line with | .inl e => .inl e | .inr l => thenR l (lexF B.length B (line + feeds A + 1)) := by
  intro f
  induction f with
  | zero =>
    intro g A line h hg
    obtain rfl : A = [] := List.eq_nil_of_length_eq_zero (by omega)
    obtain ⟨g, rfl⟩ : ∃ k, g = k + 1 := ⟨g - 1, by omega⟩
    simp only [List.length_nil] at hg
    rw [List.nil_append, lexF_nil, lexF, if_neg (by simp), show step (10 :: B) = .skip 1 1 from rfl]
    simp only [List.drop_succ_cons, List.drop_zero]
    rw [lexF_fuel g B.length B _ (by omega) (Nat.le_refl _), show line + ((feeds [] : Nat) : Int) + 1 = line + ((1 : Nat) : Int) by simp [feeds]]
    rcases lexF B.length B (line + ((1 : Nat) : Int)) with e | l <;> rfl
  | succ f ih =>
    intro g A line h hg
    by_cases hA : A = []
    · subst hA
      obtain ⟨g, rfl⟩ : ∃ k, g = k + 1 := ⟨g - 1, by omega⟩
      simp only [List.length_nil] at hg
      rw [List.nil_append, lexF_nil, lexF, if_neg (by simp), show step (10 :: B) = .skip 1 1 from rfl]
      simp only [List.drop_succ_cons, List.drop_zero]
      rw [lexF_fuel g B.length B _ (by omega) (Nat.le_refl _), show line + ((feeds [] : Nat) : Int) + 1 = line + ((1 : Nat) : Int) by simp [feeds]]
      rcases lexF B.length B (line + ((1 : Nat) : Int)) with e | l <;> rfl
    · obtain ⟨g, rfl⟩ : ∃ k, g = k + 1 := ⟨g - 1, by omega⟩
      rw [lexF, lexF, if_neg (by simp), if_neg hA, step_local A B hA]
      have ok := step_ok A
      rcases hs : step A with _ | ⟨n, d⟩ | ⟨k, t, x, n⟩
      · rfl
      · rw [hs] at ok
        obtain ⟨o1, o2, o3⟩ := ok
        simp only []
        rw [List.drop_append_of_le_length o2, ih g (A.drop n) _ (drop_len o1 o2 h) (by rw [List.length_drop]; omega)]
        rw [feeds_drop o3, show line + ((d + feeds (A.drop n) : Nat) : Int) + 1 = line + (d : Int) + (feeds (A.drop n) : Int) + 1 by omega]
      · rw [hs] at ok
        obtain ⟨o1, o2, o3, _⟩ := ok
        simp only []
        rw [List.drop_append_of_le_length o2, ih g (A.drop n) _ (drop_len o1 o2 h) (by rw [List.length_drop]; omega)]
        rw [feeds_drop o3, show line + ((0 + feeds (A.drop n) : Nat) : Int) + 1 = line + (feeds (A.drop n) : Int) + 1 by omega]
        rcases lexF f (A.drop n) line with e | l
        · rfl
        · simp only []
          rcases lexF B.length B (line + (feeds (A.drop n) : Int) + 1) with e | m <;> rfl
theorem lexF_facts : ∀ (f : Nat) (L : List UInt8) (line : Int), L.length ≤ f → match lexF f L line with
    | .inl e => line ≤ e ∧ e ≤ line + feeds L
    | .inr l => l.Pairwise (fun a b => a.line ≤ b.line) ∧ l.length ≤ L.length ∧ ∀ t ∈ l, line ≤ t.line ∧ t.line ≤ line + feeds L ∧ Good t.k t.s.data.toList t.n := by
  intro f
  induction f with
  | zero => intro L line _; simp [lexF]
  | succ f ih =>
    intro L line h
    rw [lexF]
    by_cases hL : L = []
    · rw [if_pos hL]; simp
    · rw [if_neg hL]
      have ok := step_ok L
      rcases hs : step L with _ | ⟨n, d⟩ | ⟨k, t, x, n⟩
      · show line ≤ line ∧ line ≤ line + feeds L
        exact ⟨by omega, by omega⟩
      · rw [hs] at ok
        obtain ⟨o1, o2, o3⟩ := ok
        have hf := feeds_drop o3
        have := ih (L.drop n) (line + d) (drop_len o1 o2 h)
        simp only []
        rcases hr : lexF f (L.drop n) (line + d) with e | l
        · rw [hr] at this
          simp only [] at this ⊢
          exact ⟨by omega, by omega⟩
        · rw [hr] at this
          simp only [] at this ⊢
          obtain ⟨t1, t2, t3⟩ := this
          rw [List.length_drop] at t2
          exact ⟨t1, by omega, fun t ht => by have := t3 t ht; exact ⟨by omega, by omega, this.2.2⟩⟩
      · rw [hs] at ok
        obtain ⟨o1, o2, o3, o4, o5⟩ := ok
        have hf := feeds_drop o3
        have := ih (L.drop n) line (drop_len o1 o2 h)
        simp only []
        rcases hr : lexF f (L.drop n) line with e | l
        · rw [hr] at this
          simp only [] at this ⊢
          exact ⟨by omega, by omega⟩
        · rw [hr] at this
          simp only [] at this ⊢
          obtain ⟨t1, t2, t3⟩ := this
          rw [List.length_drop] at t2
          refine ⟨List.Pairwise.cons (fun a ha => (t3 a ha).1) t1, by rw [List.length_cons]; omega, fun u hu => ?_⟩
          rcases List.mem_cons.1 hu with rfl | hu
          · exact ⟨Int.le_refl line, (show line ≤ line + feeds L by omega), o4⟩
          · have := t3 u hu
            exact ⟨by omega, by omega, this.2.2⟩

/-! Tokens spelt -/
theorem not_pre {c : UInt8} (h : c ≠ 47) (r : List UInt8) : Lib.hasPrefix (c :: r) [47, 47] = false := by
  simp [Lib.hasPrefix, List.isPrefixOf, Ne.symm h]
theorem cls_facts : ∀ c : Fin 256, (headB (UInt8.ofNat c) = true → UInt8.ofNat c ≠ 10 ∧ ¬ (UInt8.ofNat c = 32 ∨ UInt8.ofNat c = 9 ∨ UInt8.ofNat c = 13) ∧ UInt8.ofNat c ≠ 47) ∧
    (digitB (UInt8.ofNat c) = true → UInt8.ofNat c ≠ 10 ∧ ¬ (UInt8.ofNat c = 32 ∨ UInt8.ofNat c = 9 ∨ UInt8.ofNat c = 13) ∧ UInt8.ofNat c ≠ 47 ∧ headB (UInt8.ofNat c) = false ∧ UInt8.ofNat c ≠ 36) := by decide +kernel
theorem head_cls {c : UInt8} (h : headB c = true) : c ≠ 10 ∧ ¬ (c = 32 ∨ c = 9 ∨ c = 13) ∧ c ≠ 47 := by
  have := (cls_facts ⟨c.toNat, c.toNat_lt⟩).1
  simp only [UInt8.ofNat_toNat] at this
  exact this h
theorem digit_cls {c : UInt8} (h : digitB c = true) : c ≠ 10 ∧ ¬ (c = 32 ∨ c = 9 ∨ c = 13) ∧ c ≠ 47 ∧ headB c = false ∧ c ≠ 36 := by
  have := (cls_facts ⟨c.toNat, c.toNat_lt⟩).2
  simp only [UInt8.ofNat_toNat] at this
  exact this h
theorem word_form : ∀ w ∈ wordList, w ≠ [] ∧ headB (w.headD 0) = true ∧ spanL partB w = w.length := by decide
theorem name_form {t : List UInt8} (h : nameB t = true) : t ≠ [] ∧ headB (t.headD 0) = true ∧ spanL partB t = t.length ∧ wordB t = false := by
  simp only [nameB, Bool.and_eq_true, Bool.not_eq_true', beq_iff_eq, decide_eq_true_eq] at h
  obtain ⟨⟨⟨⟨h1, h2⟩, h3⟩, h4⟩, h5⟩ := h
  exact ⟨by simpa using h1, h3, h4, h5⟩
theorem step_named {t : List UInt8} (h0 : t ≠ []) (h1 : headB (t.headD 0) = true) (X : List UInt8) : step (t ++ 32 :: X) = nameStep t := by
  rcases t with _ | ⟨c, r⟩
  · exact absurd rfl h0
  · simp only [List.headD_cons] at h1
    obtain ⟨p1, p2, p3⟩ := head_cls h1
    rw [List.cons_append, step, if_neg p1, if_neg p2, not_pre p3, h1, ← List.cons_append, nameStep_local (by decide)]
    simp
theorem sign_step : ∀ t ∈ signList, step t = .tok 6 t 0 t.length ∧ t ≠ [] ∧ (∀ c ∈ t.head?, c ≠ 10 ∧ ¬ (c = 32 ∨ c = 9 ∨ c = 13) ∧ c ≠ 47 ∧ headB c = false ∧ c ≠ 36 ∧ digitB c = false ∧ c ≠ 39) ∧ signStep t = .tok 6 t 0 t.length := by
  intro t ht
  simp only [signList, List.mem_cons, List.not_mem_nil, or_false] at ht
  rcases ht with rfl | rfl | rfl | rfl | rfl | rfl | rfl | rfl | rfl | rfl | rfl | rfl | rfl | rfl | rfl | rfl | rfl | rfl | rfl | rfl | rfl | rfl | rfl | rfl | rfl | rfl
  all_goals exact ⟨by rfl, by decide, by decide, by rfl⟩
theorem good_step {k : Int} {t : List UInt8} {x : Int} (h : Good k t x) (X : List UInt8) : step (spell k t ++ 32 :: X) = .tok k t x (spell k t).length := by
  rcases h with ⟨rfl, h, rfl⟩ | ⟨rfl, h, rfl⟩ | ⟨rfl, h, rfl⟩ | ⟨rfl, h, h0, u, hu, rfl⟩ | ⟨rfl, rfl⟩ | ⟨rfl, h, rfl⟩
  · obtain ⟨n1, n2, n3, n4⟩ := name_form h
    rw [spell, if_neg (by decide), if_neg (by decide), step_named n1 n2, nameStep, n3, List.take_length, n4, h]
    simp
  · obtain ⟨n1, n2, n3⟩ := word_form t (by simpa [wordB] using h)
    rw [spell, if_neg (by decide), if_neg (by decide), step_named n1 n2, nameStep, n3, List.take_length, h]
    simp
  · obtain ⟨n1, n2, n3, n4⟩ := name_form h
    rw [spell, if_pos rfl, List.cons_append, step, not_pre (by decide), varStep_local (by decide), varStep, n3, List.take_length, h]
    simp [show headB 36 = false by decide]
    omega
  · rw [spell, if_neg (by decide), if_neg (by decide)]
    have hs : spanL digitB t = t.length := span_all h
    rcases t with _ | ⟨c, r⟩
    · exact absurd rfl h0
    · obtain ⟨p1, p2, p3, p4, p5⟩ := digit_cls (h c (by simp))
      rw [List.cons_append, step, if_neg p1, if_neg p2, not_pre p3, p4, if_neg p5, h c (by simp), ← List.cons_append, numStep_local (by decide), numStep, hs, List.take_length, hu]
      simp
  · rw [spell, if_neg (by decide), if_pos rfl]
    exact step_quote t _
  · rw [spell, if_neg (by decide), if_neg (by decide)]
    obtain ⟨_, h0, h1, h2⟩ := sign_step t (by simpa [signB] using h)
    rcases t with _ | ⟨c, r⟩
    · exact absurd rfl h0
    · obtain ⟨p1, p2, p3, p4, p5, p6, p7⟩ := h1 c (by simp)
      rw [List.cons_append, step, if_neg p1, if_neg p2, not_pre p3, p4, if_neg p5, p6, if_neg p7, ← List.cons_append, signStep_local (by decide), h2]
      simp
def Tk.spelt (t : Tk) : List UInt8 := spell t.k t.s.data.toList
def speltAll (l : List Tk) : List UInt8 := l.flatMap fun t => t.spelt ++ [32]
theorem lexF_spelt : ∀ (l : List Tk), (∀ t ∈ l, Good t.k t.s.data.toList t.n) → ∀ (g : Nat) (line : Int), (speltAll l).length ≤ g → lexF g (speltAll l) line = .inr (l.map fun t => t.at line) := by
  intro l
  induction l with
  | nil => intro _ g line _; simp [speltAll, lexF_nil]
  | cons t r ih =>
    intro h g line hg
    have hg' : (t.spelt ++ 32 :: speltAll r).length ≤ g := by simpa [speltAll] using hg
    have e : speltAll (t :: r) = t.spelt ++ 32 :: speltAll r := by simp [speltAll]
    have ht := good_step (h t List.mem_cons_self) (speltAll r)
    rw [List.length_append, List.length_cons] at hg'
    obtain ⟨g, rfl⟩ : ∃ m, g = m + 1 := ⟨g - 1, by omega⟩
    rw [e, lexF, if_neg (by simp)]
    rw [show spell t.k t.s.data.toList = t.spelt from rfl] at ht
    rw [ht]
    simp only []
    rw [List.drop_append_of_le_length (Nat.le_refl _), List.drop_length, List.nil_append]
    rcases g with _ | g
    · have := step_ok (t.spelt ++ 32 :: speltAll r)
      rw [ht] at this
      have := this.1
      omega
    · have h1 := step_ok (t.spelt ++ 32 :: speltAll r)
      rw [ht] at h1
      have := h1.1
      rw [lexF, if_neg (by simp), show step (32 :: speltAll r) = .skip 1 0 from rfl]
      simp only [List.drop_succ_cons, List.drop_zero]
      rw [show line + ((0 : Nat) : Int) = line by omega, ih (fun u hu => h u (List.mem_cons_of_mem _ hu)) g line (by omega)]
      rfl
theorem lexF_speltLen : ∀ (f : Nat) (L : List UInt8) (line : Int) (l : List Tk), L.length ≤ f → lexF f L line = .inr l → (speltAll l).length ≤ 8 * L.length := by
  intro f
  induction f with
  | zero => intro L line l _ h; simp [lexF] at h; subst h; simp [speltAll]
  | succ f ih =>
    intro L line l hl h
    rw [lexF] at h
    by_cases hL : L = []
    · rw [if_pos hL] at h; cases h; simp [speltAll]
    · rw [if_neg hL] at h
      have ok := step_ok L
      rcases hs : step L with _ | ⟨n, d⟩ | ⟨k, t, x, n⟩
      · rw [hs] at h; cases h
      · rw [hs] at h ok
        obtain ⟨o1, o2, _⟩ := ok
        have := ih _ _ l (drop_len o1 o2 hl) h
        rw [List.length_drop] at this
        omega
      · rw [hs] at h ok
        obtain ⟨o1, o2, _, _, o5⟩ := ok
        simp only [] at h
        rcases hr : lexF f (L.drop n) line with e | m
        · rw [hr] at h; cases h
        · rw [hr] at h
          cases h
          have := ih _ _ m (drop_len o1 o2 hl) hr
          rw [List.length_drop] at this
          have e : (speltAll (⟨k, ⟨t.toArray⟩, x, line⟩ :: m)).length = (spell k t).length + 1 + (speltAll m).length := by simp [speltAll, Tk.spelt]; omega
          rw [e]
          omega
theorem lexL_quote (l : List UInt8) : lexL (quoteL l) = .inr [⟨5, ⟨l.toArray⟩, 0, 0⟩] := by
  have hq : (quoteL l).length = (l.flatMap quote1).length + 1 + 1 := by simp [quoteL]
  have hs := step_quote l []
  rw [List.append_nil] at hs
  rw [lexL, hq, lexF, if_neg (by simp [quoteL]), hs]
  simp only []
  rw [List.drop_length, lexF_nil]
end Go.Proofs.YtneekcggbnodnaaGreatDoor
