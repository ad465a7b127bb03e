/- The reference's Tokens answers as the plain function does. -/
import Derived.Test.YtneekcggbnodnaaGreatDoorLexRefOne
import Derived.Test.YtneekcggbnodnaaGreatDoorLexSame
namespace Go.Proofs.YtneekcggbnodnaaGreatDoor
open Go Go.RowKit Go.Lib
set_option linter.unusedSimpArgs false
set_option linter.unusedVariables false

/-- At each round's head: the place, the line, what has been cut; the rest's tokens behind those are all. -/
def RTok (N : Nat) (s : ByteArray) (R : Int ⊕ List Tk) (w : World) (k : Nat) (line : Int) (v : Value) (wr : World) : Prop :=
  ∃ l : List Tk, wr.ownsRow N 71 4 v l.length (l.flatMap Tk.cells) ∧ Below N w wr ∧ N ≤ wr.heap.size ∧ l.length ≤ k ∧ 0 ≤ line ∧ line ≤ k ∧ thenR l (lexF (s.size - k) (s.data.toList.drop k) line) = R
theorem lex_at (s : ByteArray) (k : Nat) (line : Int) (h : k < s.size) : lexF (s.size - k) (s.data.toList.drop k) line = match step (s.data.toList.drop k) with
    | .bad => .inl line
    | .skip n d => lexF (s.size - (k + n)) (s.data.toList.drop (k + n)) (line + d)
    | .tok q u x n => match lexF (s.size - (k + n)) (s.data.toList.drop (k + n)) line with
      | .inl e => .inl e
      | .inr l => .inr (⟨q, ⟨u.toArray⟩, x, line⟩ :: l) := by
  have hl : s.data.toList.length = s.size := by simp
  have hdl : (s.data.toList.drop k).length = s.size - k := by rw [List.length_drop, hl]
  obtain ⟨m, hm⟩ : ∃ m, s.size - k = m + 1 := ⟨s.size - k - 1, by omega⟩
  have hne : s.data.toList.drop k ≠ [] := by
    intro e
    have := congrArg List.length e
    rw [hdl, List.length_nil] at this
    omega
  have ok := step_ok (s.data.toList.drop k)
  conv => lhs; rw [hm, lexF, if_neg hne]
  rcases hs : step (s.data.toList.drop k) with _ | ⟨n, d⟩ | ⟨q, u, x, n⟩
  · rfl
  · rw [hs] at ok
    obtain ⟨o1, o2, _⟩ := ok
    simp only []
    rw [List.drop_drop]
    exact lexF_fuel _ _ _ _ (by rw [List.length_drop, hl]; omega) (by rw [List.length_drop, hl]; omega)
  · rw [hs] at ok
    obtain ⟨o1, o2, _⟩ := ok
    simp only []
    rw [List.drop_drop, lexF_fuel m (s.size - (k + n)) _ _ (by rw [List.length_drop, hl]; omega) (by rw [List.length_drop, hl]; omega)]
    rcases lexF (s.size - (k + n)) (s.data.toList.drop (k + n)) line with e | l <;> rfl
/-- Behind a skip. -/
theorem rtok_skip {N k n d : Nat} {s : ByteArray} {R : Int ⊕ List Tk} {w wr : World} {line : Int} {v : Value} (h : RTok N s R w k line v wr) (hk : k < s.size) (hst : step (s.data.toList.drop k) = .skip n d) : RTok N s R w (k + n) (line + d) v wr ∧ 1 ≤ n ∧ k + n ≤ s.size := by
  obtain ⟨l, h1, h2, h3, h4, h5, h6, h7⟩ := h
  have ok := step_ok (s.data.toList.drop k)
  rw [hst] at ok
  obtain ⟨o1, o2, o3⟩ := ok
  rw [List.length_drop, size_of] at o2
  rw [lex_at s k line hk, hst] at h7
  have hfl := feeds_le ((s.data.toList.drop k).take n)
  rw [o3, List.length_take, List.length_drop, size_of] at hfl
  exact ⟨⟨l, h1, h2, h3, by omega, by omega, by omega, h7⟩, o1, by omega⟩
/-- Behind a token. -/
theorem rtok_tok {N k n : Nat} {q x : Int} {u : List UInt8} {s : ByteArray} {R : Int ⊕ List Tk} {w wr w2 w3 : World} {o : Obj} {line : Int} {v v' : Value} {l : List Tk} {S : ByteArray} (h1 : wr.ownsRow N 71 4 v l.length (l.flatMap Tk.cells)) (h4 : l.length ≤ k) (h5 : 0 ≤ line) (h6 : line ≤ k)
    (h7 : thenR l (lexF (s.size - k) (s.data.toList.drop k) line) = R) (hk : k < s.size) (hst : step (s.data.toList.drop k) = .tok q u x n) (hS : (⟨u.toArray⟩ : ByteArray) = S)
    (hb : Below N w w2) (hN : N ≤ w2.heap.size) (ho : w3.ownsRow N 71 4 v' (l.length + 1) (l.flatMap Tk.cells ++ [.int .u8 q, .string S, .int .i64 x, .int .i64 line])) (hg : (w2.alloc o).grownBy w3 v.ownBlock) :
    RTok N s R w (k + n) line v' w3 ∧ 1 ≤ n ∧ k + n ≤ s.size := by
  subst hS
  have ok := step_ok (s.data.toList.drop k)
  rw [hst] at ok
  obtain ⟨o1, o2, o3, _⟩ := ok
  rw [List.length_drop, size_of] at o2
  rw [lex_at s k line hk, hst] at h7
  refine ⟨⟨l ++ [⟨q, ⟨u.toArray⟩, x, line⟩], ?_, (hb.alloc hN o).grown hg (by simp; omega) (fun k hk => (h1.lt k hk).1), by have := hg.size; simp at this; omega, by simp; omega, h5, by omega, ?_⟩, o1, by omega⟩
  · rw [List.length_append, List.flatMap_append]
    exact ho
  · rw [thenR_snoc]
    exact h7
theorem skip_feed (r : List UInt8) : step (10 :: r) = .skip 1 1 := rfl
theorem skip_blank {c : UInt8} (r : List UInt8) (h : c = 32 ∨ c = 9 ∨ c = 13) : step (c :: r) = .skip 1 0 := by
  rcases h with rfl | rfl | rfl <;> rfl
theorem skip_remark (r : List UInt8) : step (47 :: 47 :: r) = .skip (spanL lineB (47 :: 47 :: r)) 0 := rfl
theorem ext_byte {s : ByteArray} {k : Nat} (h : k < s.size) (h2 : 0 < (s.extract k s.size).size) : (s.extract k s.size)[0] = s[k] := by
  have e := drop_list s k
  have e1 : s.data.toList.drop k = s[k] :: s.data.toList.drop (k + 1) := by
    rw [byte_at, List.drop_eq_getElem_cons (by simpa using h)]
  rw [e1] at e
  have e3 : (s.extract k s.size).data.toList[0]? = some s[k] := by rw [e]; rfl
  rw [byte_at]
  rw [List.getElem?_eq_getElem (by simpa using h2)] at e3
  exact Option.some.inj e3
theorem drop_byte {s : ByteArray} {k : Nat} {c d : UInt8} {r : List UInt8} (h : s.data.toList.drop k = c :: d :: r) : ∃ h1 : k + 1 < s.size, s[k] = c ∧ s[k + 1] = d := by
  have hl : s.data.toList.length = s.size := by simp
  have e0 := congrArg List.length h
  rw [List.length_drop, hl, List.length_cons, List.length_cons] at e0
  refine ⟨by omega, ?_, ?_⟩
  · have e1 : (s.data.toList.drop k)[0]? = some c := by rw [h]; rfl
    rw [List.getElem?_drop, List.getElem?_eq_getElem (by omega)] at e1
    exact Option.some.inj e1
  · have e1 : (s.data.toList.drop k)[1]? = some d := by rw [h]; rfl
    rw [List.getElem?_drop, List.getElem?_eq_getElem (by omega)] at e1
    exact Option.some.inj e1
theorem two_form {l : List UInt8} (h : Lib.hasPrefix l [47, 47] = true) : ∃ r, l = 47 :: 47 :: r := by
  rcases l with _ | ⟨a, _ | ⟨b, r⟩⟩
  · exact absurd h (by decide)
  · simp [Lib.hasPrefix] at h
  · simp [Lib.hasPrefix] at h
    exact ⟨r, by rw [← h.1, ← h.2]⟩
theorem span_at {s : ByteArray} {k j : Nat} {L : List UInt8} (hL : s.data.toList.drop k = L) (hkj : k ≤ j) (hj : j ≤ s.size) (h1 : ∀ i (h : i < s.size), k ≤ i → i < j → s[i] ≠ 10) (h2 : ∀ h : j < s.size, s[j] = 10) : k + spanL lineB L = j := by
  subst hL
  have hl : s.data.toList.length = s.size := by simp
  have e : spanL lineB (s.data.toList.drop k) = j - k := by
    refine spanL_stop (fun i h hi => ?_) (by rw [List.length_drop]; omega) (fun h => ?_)
    · have hi2 : k + i < s.size := by rw [List.length_drop] at h; omega
      have := h1 (k + i) hi2 (by omega) (by omega)
      rw [List.getElem_drop]
      rw [byte_at] at this
      simp only [lineB, decide_eq_true_eq]
      intro e
      exact this (UInt8.toNat_inj.1 (by rw [e]; rfl))
    · have hi2 : k + (j - k) < s.size := by rw [List.length_drop] at h; omega
      have := h2 (by omega)
      rw [List.getElem_drop]
      rw [byte_at] at this
      have e2 : s.data.toList[k + (j - k)]'(by omega) = 10 := by
        rw [← this]; congr 1; omega
      rw [e2]
      rfl
  omega
theorem step_two {c : UInt8} {r : List UInt8} (h10 : c ≠ 10) (hb : ¬ (c = 32 ∨ c = 9 ∨ c = 13)) (hp : Lib.hasPrefix (c :: r) [47, 47] = false) (n d : Nat) : step (c :: r) ≠ .skip n d := by
  rw [step, if_neg h10, if_neg hb, if_neg (by rw [hp]; decide)]
  unfold nameStep varStep numStep textStep signStep
  repeat' split
  all_goals simp
set_option maxHeartbeats 8000000 in
set_option maxRecDepth 100000 in
theorem refTokens_any (s : ByteArray) (hs : s.size ≤ 140737488355328) (w : World) : Calls Tryz.prog 5 #[.string s] w (TokensEnd s w) := by
  by_cases hlong : 65536 < s.size
  · have hi : (65536 : Int) < (s.size : Int) := by omega
    have HL := Lib.hid hlong
    clear hlong
    go_enter Tryz.func5, Tryz.ntmps5
    go_wp2
    go_ret3
    exact ⟨Below.refl _ _, by rw [if_pos HL.out]; rfl⟩
  · obtain ⟨i0, hi0, hz0, hz1, hz2⟩ := info_parts infoTok
    have hi : ¬ (65536 : Int) < (s.size : Int) := by omega
    have hs2 : s.size ≤ 65536 := by omega
    have hl : s.data.toList.length = s.size := by simp
    obtain ⟨R, hR⟩ : ∃ R, R = lexL s.data.toList := ⟨_, rfl⟩
    have hrel0 : Hid (RTok w.heap.size s R w 0 0 (.slice none 0 0) w) := by
      refine ⟨[], World.ownsRow_nil _ _ _ _, Below.refl _ _, Nat.le_refl _, by simp, by omega, by omega, ?_⟩
      rw [hR, lexL, hl, Nat.sub_zero, List.drop_zero]
      rcases lexF s.size s.data.toList 0 with e | l <;> rfl
    have HL := Lib.hid hlong
    have HR := Lib.hid hR
    have HLL := Lib.hid hl
    clear hlong hR hl
    go_enter Tryz.func5, Tryz.ntmps5
    go_wp2_with fail
    generalize hN : w.heap.size = N at hrel0
    have HN := Lib.hid hN
    clear hN
    go_loopw [5, 6, 7] (fun v ln i wr => ∃ (k : Nat) (line : Int), ln = .int .i64 line ∧ i = .int .i64 k ∧ k ≤ s.size ∧ 0 ≤ line ∧ line ≤ k ∧ Hid (RTok N s R w k line v wr)) (fun _ _ i _ => s.size - (intOf i).toNat)
    case atStart => exact ⟨0, 0, rfl, rfl, Nat.zero_le _, by omega, by omega, hrel0⟩
    case round =>
      obtain ⟨k, line, rfl, rfl, hk, hl0, hl1, hr⟩ := hrel
      by_cases hlt : k < s.size
      · have hdrop : s.data.toList.drop k = s[k] :: s.data.toList.drop (k + 1) := by
          rw [byte_at, List.drop_eq_getElem_cons (by have := HLL.out; omega)]
        have HD := Lib.hid hdrop
        clear hdrop
        by_cases h10 : s[k] = 10
        · have e10 : ((s[k].toNat : Int) == 10) = true := byte_is 10 (by decide) h10
          have e32 : ((s[k].toNat : Int) == 32) = false := byte_ne 32 (by decide) (by rw [h10]; decide)
          have e9 : ((s[k].toNat : Int) == 9) = false := byte_ne 9 (by decide) (by rw [h10]; decide)
          have hsk := rtok_skip hr.out hlt (by rw [HD.out, h10]; exact skip_feed _)
          have HSK := Lib.hid hsk.1
          clear h10 hsk hr
          go_wp2_with fail
          go_roundw
          case rel => exact ⟨k + 1, line + 1, by go_num, by go_num, by omega, by omega, by omega, HSK.out⟩
          case measure => simp [intOf]; omega
        · have e10 : ((s[k].toNat : Int) == 10) = false := byte_ne 10 (by decide) h10
          by_cases hbl : s[k] = 32 ∨ s[k] = 9 ∨ s[k] = 13
          · have hsk := rtok_skip hr.out hlt (by rw [HD.out]; exact skip_blank _ hbl)
            rw [show line + ((0 : Nat) : Int) = line by omega] at hsk
            have HSK := Lib.hid hsk.1
            have hcase : ((s[k].toNat : Int) == 32) = true ∨ ((s[k].toNat : Int) == 32) = false ∧ ((s[k].toNat : Int) == 9) = true ∨ ((s[k].toNat : Int) == 32) = false ∧ ((s[k].toNat : Int) == 9) = false ∧ ((s[k].toNat : Int) == 13) = true := by
              rcases hbl with h | h | h
              · exact .inl (byte_is 32 (by decide) h)
              · exact .inr (.inl ⟨byte_ne 32 (by decide) (by rw [h]; decide), byte_is 9 (by decide) h⟩)
              · exact .inr (.inr ⟨byte_ne 32 (by decide) (by rw [h]; decide), byte_ne 9 (by decide) (by rw [h]; decide), byte_is 13 (by decide) h⟩)
            clear h10 hsk hr hbl
            rcases hcase with t1 | ⟨t1, t2⟩ | ⟨t1, t2, t3⟩
            all_goals
              go_wp2_with fail
              go_roundw
              case rel => exact ⟨k + 1, line, rfl, by go_num, by omega, by omega, by omega, HSK.out⟩
              case measure => simp [intOf]; omega
          · have e32 : ((s[k].toNat : Int) == 32) = false := byte_ne 32 (by decide) (fun e => hbl (.inl e))
            have e9 : ((s[k].toNat : Int) == 9) = false := byte_ne 9 (by decide) (fun e => hbl (.inr (.inl e)))
            have e13 : ((s[k].toNat : Int) == 13) = false := byte_ne 13 (by decide) (fun e => hbl (.inr (.inr e)))
            by_cases hp : Lib.hasPrefix (s.data.toList.drop k) [47, 47] = true
            · obtain ⟨r2, hr2⟩ := two_form hp
              obtain ⟨hk1, b0, b1⟩ := drop_byte hr2
              have e47 : ((s[k].toNat : Int) == 47) = true := byte_is 47 (by decide) b0
              have m1 : (k : Int) + 1 < (s.size : Int) := by omega
              have e48 : ((s[k + 1].toNat : Int) == 47) = true := byte_is 47 (by decide) b1
              have hsk := rtok_skip hr.out hlt (by rw [hr2]; exact skip_remark _)
              rw [show line + ((0 : Nat) : Int) = line by omega] at hsk
              have hsp : Hid (∀ j, k ≤ j → j ≤ s.size → (∀ i (h : i < s.size), k ≤ i → i < j → s[i] ≠ 10) → (∀ h : j < s.size, s[j] = 10) → k + spanL lineB (47 :: 47 :: r2) = j) := fun j a b c d => span_at hr2 a b c d
              have HSK := Lib.hid hsk
              clear hp hr2 b0 b1 hsk hr hbl h10
              go_wp2_with fail
              go_loop [7] (fun i => ∃ j : Nat, k ≤ j ∧ j ≤ s.size ∧ i = .int .i64 j ∧ Hid (∀ i (h : i < s.size), k ≤ i → i < j → s[i] ≠ 10)) (fun i => s.size - (intOf i).toNat)
              case atStart => exact ⟨k, Nat.le_refl _, hk, rfl, fun i _ h1 h2 => by omega⟩
              case round =>
                obtain ⟨j, hkj, hj, rfl, hall⟩ := hrel
                by_cases hjl : j < s.size
                · by_cases hj10 : s[j] = 10
                  · have ej : ((s[j].toNat : Int) == 10) = true := byte_is 10 (by decide) hj10
                    have ej2 : ((s[j].toNat : Int) != 10) = false := by rw [bne, ej]; rfl
                    have HE := Lib.hid (hsp.out j hkj hj hall.out (fun _ => hj10))
                    clear hj10
                    go_wp2_with fail
                    go_roundw
                    case rel => exact ⟨j, line, rfl, rfl, hj, by omega, by omega, by rw [HE.out] at HSK; exact HSK.out.1⟩
                    case measure => have := HSK.out.2.1; have := HE.out; simp [intOf]; omega
                  · have ej : ((s[j].toNat : Int) == 10) = false := byte_ne 10 (by decide) hj10
                    have ej2 : ((s[j].toNat : Int) != 10) = true := by rw [bne, ej]; rfl
                    have HJ := Lib.hid hj10
                    clear hj10
                    go_wp2_with fail
                    go_round
                    case rel =>
                      refine ⟨j + 1, by omega, by omega, by go_num, fun i h hi hij => ?_⟩
                      by_cases e : i = j
                      · subst e; exact HJ.out
                      · exact hall.out i h hi (by omega)
                    case measure => simp [intOf]; omega
                · have HE := Lib.hid (hsp.out j hkj hj hall.out (fun h => absurd h hjl))
                  go_wp2_with fail
                  go_roundw
                  case rel => exact ⟨j, line, rfl, rfl, hj, by omega, by omega, by rw [HE.out] at HSK; exact HSK.out.1⟩
                  case measure => have := HSK.out.2.1; have := HE.out; simp [intOf]; omega
            · have hp' : Lib.hasPrefix (s.data.toList.drop k) [47, 47] = false := by simpa using hp
              have hLd : (s.extract k s.size).data.toList = s.data.toList.drop k := drop_list s k
              have hz : 0 < (s.extract k s.size).size := by rw [drop_size]; omega
              have ON := one_any (s.extract k s.size) (by rw [drop_size]; omega) hz (by rw [ext_byte hlt hz]; exact h10) (by rw [ext_byte hlt hz]; exact hbl) (by rw [hLd]; exact hp')
              rw [hLd] at ON
              have hns := fun n d => step_two (c := s[k]) (r := s.data.toList.drop (k + 1)) h10 hbl (by rw [← HD.out]; exact hp') n d
              rw [← HD.out] at hns
              have ht : ((s[k].toNat : Int) == 47) = false ∨ ((s[k].toNat : Int) == 47) = true ∧ ((k : Int) + 1 < (s.size : Int)) ∧ (∃ h : k + 1 < s.size, ((s[k + 1].toNat : Int) == 47) = false) ∨ ((s[k].toNat : Int) == 47) = true ∧ ¬ ((k : Int) + 1 < (s.size : Int)) := by
                by_cases a0 : s[k] = 47
                · by_cases a1 : k + 1 < s.size
                  · refine .inr (.inl ⟨byte_is 47 (by decide) a0, by omega, a1, byte_ne 47 (by decide) (fun e => hp ?_)⟩)
                    rw [HD.out, a0, List.drop_eq_getElem_cons (by have := HLL.out; omega), ← byte_at s (k + 1) a1, e]
                    rfl
                  · exact .inr (.inr ⟨byte_is 47 (by decide) a0, by omega⟩)
                · exact .inl (byte_ne 47 (by decide) a0)
              have m1 : (0 : Int) ≤ (k : Int) := by omega
              have m2 : (k : Int) ≤ (s.size : Int) := by omega
              obtain ⟨l, h1, h2, h3, h4, h5, h6, h7⟩ := hr.out
              obtain ⟨a, c, rfl⟩ : ∃ a c, u5 = .slice a l.length c := Toks.form (B := N) h1
              rcases hst : step (s.data.toList.drop k) with _ | ⟨n, d⟩ | ⟨q, u, x, n⟩
              · have HON : Hid (∀ w, Calls Tryz.prog 11 #[.string (s.extract k s.size)] w fun e w' => ∃ (k : Int) (s : ByteArray) (x l : Int), e = .returned (.tuple #[.agg #[.int .u8 k, .string s, .int .i64 x, .int .i64 l], .int .i64 0]) ∧ Hid (Below w.heap.size w w')) := fun w => (ON w).mono fun e w' h => by
                  rw [hst] at h
                  obtain ⟨hb, k, s, x, l, rfl⟩ := h
                  exact ⟨k, s, x, l, rfl, hb⟩
                have hRl : R = .inl line := by
                  rw [← h7, lex_at s k line hlt, hst]
                  rfl
                have HRL := Lib.hid hRl
                have HB := Lib.hid h2
                have H3 := Lib.hid h3
                clear hp hp' hLd hz ON hns hbl h10 h1 h2 h3 h4 h5 h6 h7 hr hst hRl
                rcases ht with t1 | ⟨t1, t2, th, t3⟩ | ⟨t1, t2⟩
                all_goals
                  go_wp2_with fail
                  refine (HON.out _).mono ?_
                  rintro e w2 ⟨q, S, x, z, rfl, hb2⟩
                  go_wp2_with fail
                  go_ret3
                  refine ⟨?_, by rw [if_neg HL.out, ← HR.out, HRL.out]; rfl⟩
                  rw [HN.out]
                  exact (HB.out.trans (hb2.out.mono H3.out)).alloc (Nat.le_trans H3.out hb2.out.size) _
              · exact absurd hst (hns n d)
              · have HON : Hid (∀ w, Calls Tryz.prog 11 #[.string (s.extract k s.size)] w fun e w' => e = .returned (.tuple #[.agg #[.int .u8 q, .string ⟨u.toArray⟩, .int .i64 x, .int .i64 0], .int .i64 (n : Int)]) ∧ Hid (Below w.heap.size w w')) := fun w => (ON w).mono fun e w' h => by
                  rw [hst] at h
                  exact ⟨h.2, h.1⟩
                have ok := step_ok (s.data.toList.drop k)
                rw [hst] at ok
                obtain ⟨o1, o2, o3, _⟩ := ok
                rw [List.length_drop, size_of] at o2
                have mn0 : ((n : Int) == 0) = false := by
                  apply beq_false_of_ne
                  omega
                have HST := Lib.hid hst
                have O1 := Lib.hid o1
                have O2 := Lib.hid o2
                have H1 := Lib.hid h1
                have H2 := Lib.hid h2
                have H3 := Lib.hid h3
                have H4 := Lib.hid h4
                have H7 := Lib.hid h7
                generalize hS : (⟨u.toArray⟩ : ByteArray) = S at HON
                have HS := Lib.hid hS
                clear hp hp' hLd hz ON hns hbl h10 h1 h2 h3 h4 h5 h6 h7 hr hst o1 o2 o3 hS
                rcases ht with t1 | ⟨t1, t2, th, t3⟩ | ⟨t1, t2⟩
                all_goals
                  go_wp2_with fail
                  refine (HON.out _).mono ?_
                  rintro e w2 ⟨rfl, hb2⟩
                  have HO2 : Hid (w2.ownsRow N 71 4 (.slice a l.length c) l.length (l.flatMap Tk.cells)) := own_belowN H1.out (fun k hk => (World.ownsRow.lt H1.out k hk).2) hb2.out
                  have HB2 : Hid (Below N w w2) := H2.out.trans (hb2.out.mono H3.out)
                  have HN2 : Hid (N ≤ w2.heap.size) := Nat.le_trans H3.out hb2.out.size
                  clear hb2
                  go_wp2_with (at_builtin; refine wpList_append_own_at _ rfl _ _ 22 rfl N 71 i0 _ 4 40 Tryz.underlying22 hi0 hz0 hz1 hz2 rfl (by decide) _ _ _ rfl ((HO2.out.alloc _).alloc _) ⟨w2.heap.size + 1, 0, none⟩ 1 1 [.int .u8 q, .string S, .int .i64 x, .int .i64 line] rfl rfl ?c1 ?c2 ?c3 ?c4 ?c5 ?_)
                  case c1 =>
                    intro j u hj
                    have hl : ((w2.alloc (.cells #[.int .u8 q, .string S, .int .i64 x, .int .i64 line] 71)).alloc (.cells #[.int .u8 q, .string S, .int .i64 x, .int .i64 line] 71)).heap[w2.heap.size + 1]? = some (.cells #[.int .u8 q, .string S, .int .i64 x, .int .i64 line] 71 (0, 0)) := by
                      have := heap_alloc_new (w2.alloc (.cells #[.int .u8 q, .string S, .int .i64 x, .int .i64 line] 71)) (.cells #[.int .u8 q, .string S, .int .i64 x, .int .i64 line] 71)
                      simpa using this
                    have := Lib.cell_of_heap hl j
                    rw [Addr.add_lit]
                    simp only [Nat.zero_add]
                    refine Eq.trans this ?_
                    rw [← hj]
                    simp
                  case c2 =>
                    intro u hu
                    simp only [List.mem_cons, List.mem_nil_iff, or_false, List.not_mem_nil] at hu
                    rcases hu with rfl | rfl | rfl | rfl <;> rfl
                  case c3 => have := H4.out; unfold maxLen; omega
                  case c4 => have := H4.out; omega
                  case c5 => have := HN2.out; simp; omega
                  intro v' w3 hown' hgrow _ hat
                  have HK := Lib.hid (rtok_tok H1.out H4.out hl0 hl1 H7.out hlt HST.out HS.out (HB2.out.alloc HN2.out _) (Nat.le_trans HN2.out (by simp)) hown' hgrow)
                  clear hown' hgrow hat
                  have e5 : k + n ≤ s.size := HK.out.2.2
                  have e6 : 1 ≤ n := O1.out
                  go_wp2_with fail
                  go_roundw
                  case rel => exact ⟨k + n, line, rfl, by go_num, by have := HK.out.2.2; omega, hl0, by omega, HK.out.1⟩
                  case measure => have := O1.out; have := HK.out.2.2; simp [intOf]; omega
      · obtain ⟨l, h1, h2, h3, h4, h5, h6, h7⟩ := hr.out
        have hz : s.data.toList.drop k = [] := List.drop_eq_nil_of_le (by have := HLL.out; omega)
        have hRl : R = .inr l := by
          rw [← h7, hz, lexF_nil]
          simp [thenR]
        obtain ⟨a, c, rfl⟩ : ∃ a c, u5 = .slice a l.length c := Toks.form (B := N) h1
        have HO := Lib.hid h1
        have HB := Lib.hid h2
        have HRL := Lib.hid hRl
        clear hr h1 h2 h3 h4 h5 h6 h7 hz hRl
        go_wp2_with fail
        go_ret3
        refine ⟨by rw [HN.out]; exact HB.out, ?_⟩
        rw [if_neg HL.out, ← HR.out, HRL.out]
        exact ⟨_, rfl, by rw [HN.out]; exact HO.out⟩
end Go.Proofs.YtneekcggbnodnaaGreatDoor
