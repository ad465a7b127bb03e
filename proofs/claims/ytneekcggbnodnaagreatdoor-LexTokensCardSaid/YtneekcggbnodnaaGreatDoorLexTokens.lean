/- Tokens: the tokens of a text, or the line where none begins. -/
import Derived.Test.YtneekcggbnodnaaGreatDoorLexNext
import Derived.Deep.LoopGhost
import Derived.Deep.QuietTactic
namespace Go.Proofs.YtneekcggbnodnaaGreatDoor
open Go Go.RowKit Go.Lib
set_option linter.unusedSimpArgs false
set_option linter.unusedVariables false

/-- What Tokens answers: too long; a line where no token begins; the tokens, in memory of the call's own. -/
def TokensEnd (s : ByteArray) (w : World) (e : Ending) (w' : World) : Prop :=
  Below w.heap.size w w' ∧
  if 65536 < s.size then e = .returned (.tuple #[.slice none 0 0, .int .i64 0, .int .i64 3])
  else match lexL s.data.toList with
    | .inl line => e = .returned (.tuple #[.slice none 0 0, .int .i64 line, .int .i64 6])
    | .inr l => ∃ v, e = .returned (.tuple #[v, .int .i64 0, .int .i64 0]) ∧ w'.ownsRow w.heap.size 71 4 v l.length (l.flatMap Tk.cells)
/-- At each round's head: the rest, the line, what has been cut; the rest's tokens behind those are all. -/
def TokRel (p : Nat) (n : Nat) (R : Int ⊕ List Tk) (w : World) (t : ByteArray) (wr : World) : Prop :=
  ∃ (line : Int) (v : Value) (l : List Tk), Sc p p t line v l false wr ∧ Below p w wr ∧ p ≤ wr.heap.size ∧ 0 ≤ line ∧ line + t.size ≤ n ∧ l.length + t.size ≤ n ∧
    thenR l (lexF t.size t.data.toList line) = R
theorem feeds_le (l : List UInt8) : feeds l ≤ l.length := List.count_le_length
theorem size_of {t : ByteArray} : t.data.toList.length = t.size := by simp
theorem drop_list (t : ByteArray) (n : Nat) : (t.extract n t.size).data.toList = t.data.toList.drop n := by
  simp only [ByteArray.data_extract, Array.toList_extract, List.extract_eq_take_drop]
  exact List.take_of_length_le (by simp)
theorem drop_size (t : ByteArray) (n : Nat) : (t.extract n t.size).size = t.size - n := by simp
theorem lex_unfold (t : ByteArray) (line : Int) (h : 0 < t.size) : lexF t.size t.data.toList line = match step t.data.toList with
    | .bad => .inl line
    | .skip n d => lexF (t.extract n t.size).size (t.extract n t.size).data.toList (line + d)
    | .tok k u x n => match lexF (t.extract n t.size).size (t.extract n t.size).data.toList line with
      | .inl e => .inl e
      | .inr l => .inr (⟨k, ⟨u.toArray⟩, x, line⟩ :: l) := by
  obtain ⟨m, hm⟩ : ∃ m, t.size = m + 1 := ⟨t.size - 1, by omega⟩
  have hl := size_of (t := t)
  have hne : t.data.toList ≠ [] := by
    intro e; rw [e] at hl; simp at hl; omega
  have ok := step_ok t.data.toList
  conv => lhs; rw [hm, lexF, if_neg hne]
  rcases hs : step t.data.toList with _ | ⟨n, d⟩ | ⟨k, u, x, n⟩
  · rfl
  · rw [hs] at ok
    obtain ⟨o1, o2, _⟩ := ok
    simp only []
    rw [drop_list]
    exact lexF_fuel _ _ _ _ (by rw [List.length_drop]; omega) (by rw [List.length_drop, drop_size]; omega)
  · rw [hs] at ok
    obtain ⟨o1, o2, _⟩ := ok
    simp only []
    rw [drop_list]
    rw [lexF_fuel m (t.extract n t.size).size _ _ (by rw [List.length_drop]; omega) (by rw [List.length_drop, drop_size]; omega)]
    rcases lexF (t.extract n t.size).size (t.data.toList.drop n) line with e | l <;> rfl
/-- What next leaves: either no token begins there, or the relation of the next round. -/
def TokNext (p : Nat) (n : Nat) (R : Int ⊕ List Tk) (w : World) (t : ByteArray) (w2 : World) : Prop :=
  (∃ line, R = .inl line ∧ ScBad p p line w2 ∧ Below p w w2) ∨ (∃ u : ByteArray, u.size < t.size ∧ TokRel p n R w u w2)
theorem thenR_snoc (l : List Tk) (t : Tk) (r : Int ⊕ List Tk) : thenR (l ++ [t]) r = thenR l (match r with | .inl e => .inl e | .inr m => .inr (t :: m)) := by
  rcases r with e | m
  · rfl
  · simp [thenR]
theorem tok_next {p n : Nat} {R : Int ⊕ List Tk} {w wr w2 : World} {t : ByteArray} {line : Int} {l : List Tk} {e : Ending} (ht : 0 < t.size) (hn : NextEnd p p t line l (step t.data.toList) wr e w2)
    (hb : Below p w wr) (hp : p ≤ wr.heap.size) (hl0 : 0 ≤ line) (hl1 : line + t.size ≤ n) (hll : l.length + t.size ≤ n) (hR : thenR l (lexF t.size t.data.toList line) = R) : e = .returned (.tuple #[]) ∧ TokNext p n R w t w2 := by
  obtain ⟨he, hb2, hm⟩ := hn
  refine ⟨he, ?_⟩
  have ok := step_ok t.data.toList
  rw [lex_unfold t line ht] at hR
  rcases hs : step t.data.toList with _ | ⟨m, d⟩ | ⟨k, u, x, m⟩
  · rw [hs] at hm hR
    exact .inl ⟨line, hR.symm, hm, hb.trans hb2⟩
  · rw [hs] at hm hR ok
    obtain ⟨o1, o2, o3⟩ := ok
    obtain ⟨v', h'⟩ := hm
    rw [size_of] at o2
    have hfl := feeds_le (t.data.toList.take m)
    rw [o3, List.length_take, size_of] at hfl
    refine .inr ⟨t.extract m t.size, by rw [drop_size]; omega, line + d, v', l, h', hb.trans hb2, Nat.le_trans hp hb2.size, by omega, by rw [drop_size]; omega, by rw [drop_size]; omega, hR⟩
  · rw [hs] at hm hR ok
    obtain ⟨o1, o2, o3, _⟩ := ok
    obtain ⟨v', h'⟩ := hm
    rw [size_of] at o2
    refine .inr ⟨t.extract m t.size, by rw [drop_size]; omega, line, v', _, h', hb.trans hb2, Nat.le_trans hp hb2.size, by omega, by rw [drop_size]; omega, by rw [drop_size, List.length_append]; simp; omega, ?_⟩
    rw [thenR_snoc]
    exact hR
set_option maxHeartbeats 2000000 in
theorem tokens_any (s : ByteArray) (hs : s.size ≤ 140737488355328) (w : World) (hg : Glob w) : Calls Tryz.prog 4 #[.string s] w (TokensEnd s w) := by
  by_cases hlong : 65536 < s.size
  · have hi : (65536 : Int) < (s.size : Int) := by omega
    have HL := Lib.hid hlong
    clear hlong hg
    go_enter Tryz.func4, Tryz.ntmps4
    go_wp2
    go_ret3
    exact ⟨Below.refl _ _, by rw [if_pos HL.out]; rfl⟩
  · have hi : ¬ (65536 : Int) < (s.size : Int) := by omega
    have hs2 : s.size ≤ 65536 := by omega
    obtain ⟨R, hR⟩ : ∃ R, R = lexL s.data.toList := ⟨_, rfl⟩
    have HL := Lib.hid hlong
    have HR := Lib.hid hR
    have HG := Lib.hid hg
    clear hlong hg hR
    go_enter Tryz.func4, Tryz.ntmps4
    go_wp2_with fail
    have hrel0 : Hid (TokRel w.heap.size 65536 R w s (w.alloc (.cells #[.string s, .int .i64 0, .slice none 0 0, .bool false] 68))) := by
      refine ⟨0, _, [], ⟨Nat.le_refl _, heap_alloc_new w _, World.ownsRow_nil _ _ _ _, by simp [Value.ownBlock]⟩, (Below.refl _ w).alloc (Nat.le_refl _) _, by simp, by omega, by omega, by simp; omega, ?_⟩
      rw [HR.out, lexL, size_of]
      rcases lexF s.size s.data.toList 0 with e | l
      · rfl
      · rfl
    generalize hN : w.heap.size = N at hrel0
    have HN := Lib.hid hN
    clear hN
    go_loopg [12] s.size (fun k x wr => ∃ t : ByteArray, t.size = k ∧ Hid (TokRel N 65536 R w t wr))
    case atStart => exact ⟨s, rfl, hrel0⟩
    case round =>
      obtain ⟨t, ht, hr⟩ := hrel
      obtain ⟨line, v, l, hsc, hb, hp, hl0, hl1, hll, hR⟩ := hr.out
      have k0 : wr.cell? ⟨N, 0, none⟩ = some (.string t) := by rw [Lib.cell_of_heap hsc.lies]; rfl
      by_cases h0 : 0 < t.size
      · have h1 : t.toList ≠ [] := by
          rw [ByteArray.toList_eq]
          intro e
          have := size_of (t := t)
          rw [e] at this
          simp at this
          omega
        have h2 : (!t.toList.isEmpty) = true := by simpa using h1
        have NX : Hid (Calls Tryz.prog 10 #[.pointer (some ⟨N, 0, none⟩)] wr fun e w2 => e = .returned (.tuple #[]) ∧ TokNext N 65536 R w t w2) :=
          (next_any N N t line v l wr hsc h0 (by omega) (by omega) hp (HG.out.below (by rw [HN.out]; exact hb)) hl0 (by omega)).mono fun e w2 hn => tok_next h0 hn hb hp hl0 hl1 hll hR
        have HT := Lib.hid ht
        clear hsc hb hp hl0 hl1 hll hR hr ht
        go_wp2_with fail
        refine NX.out.mono ?_
        rintro e w2 ⟨rfl, hn⟩
        rcases hn with ⟨line', hRe, ⟨s', v', l', hs'⟩, hb2⟩ | ⟨u, hu, hrel2⟩
        · have d3 : w2.cell? ⟨N, 3, none⟩ = some (.bool true) := by rw [Lib.cell_of_heap hs'.lies]; rfl
          have d1 : w2.cell? ⟨N, 1, none⟩ = some (.int .i64 line') := by rw [Lib.cell_of_heap hs'.lies]; rfl
          have HE := Lib.hid hRe
          have HB2 := Lib.hid hb2
          clear hRe hs' hb2
          go_wp2_with fail
          go_quiet (fail)
          go_wp2_with fail
          go_ret3
          exact ⟨by rw [HN.out]; exact below_drewN HB2.out _, by rw [if_neg HL.out, ← HR.out, HE.out]; rfl⟩
        · have d3 : w2.cell? ⟨N, 3, none⟩ = some (.bool false) := by
            obtain ⟨_, _, _, hs', _⟩ := hrel2
            rw [Lib.cell_of_heap hs'.lies]; rfl
          have HR2 := Lib.hid hrel2
          have HU := Lib.hid hu
          clear hrel2 hu
          go_wp2_with fail
          go_roundg u.size
          case measure => have := HU.out; have := HT.out; omega
          case rel => exact ⟨u, rfl, HR2.out⟩
      · have hz : t.size = 0 := by omega
        have h1 : t.toList = [] := by
          rw [ByteArray.toList_eq]
          exact List.eq_nil_of_length_eq_zero (by rw [size_of]; omega)
        have hRl : R = .inr l := by
          rw [← hR, hz]
          simp [lexF, thenR]
        obtain ⟨a, c, rfl⟩ := hsc.form
        have k2 : wr.cell? ⟨N, 2, none⟩ = some (.slice a l.length c) := by rw [Lib.cell_of_heap hsc.lies]; rfl
        have HO := Lib.hid hsc.own
        have HB := Lib.hid hb
        have HRL := Lib.hid hRl
        clear hsc hb hp hl0 hl1 hll hR hr ht hRl hz
        go_wp2_with fail
        go_ret3
        refine ⟨by rw [HN.out]; exact HB.out, ?_⟩
        rw [if_neg HL.out, ← HR.out, HRL.out]
        exact ⟨_, rfl, by rw [HN.out]; exact HO.out⟩
end Go.Proofs.YtneekcggbnodnaaGreatDoor
