/- Which texts are words and names, in plain Lean; lex.Word and lex.Name answer so. -/
import Derived.Test.YtneekcggbnodnaaGreatDoorLexSpan
namespace Go.Proofs.YtneekcggbnodnaaGreatDoor
open Go Go.RowKit Go.Lib
set_option linter.unusedSimpArgs false
set_option linter.unusedVariables false

/-- The words. -/
def wordList : List (List UInt8) := [[97, 98, 115, 116, 114, 97, 99, 116], [97, 115], [98, 114, 101, 97, 107], [99, 97, 116, 99, 104], [99, 108, 97, 115, 115], [99, 111, 110, 116, 105, 110, 117, 101], [101, 99, 104, 111], [101, 108, 115, 101], [101, 120, 116, 101, 110, 100, 115], [102, 97, 108, 115, 101], [102, 105, 110, 97, 108, 108, 121], [102, 111, 114, 101, 97, 99, 104], [102, 114, 111, 109], [102, 117, 110, 99, 116, 105, 111, 110], [105, 102], [105, 109, 112, 108, 101, 109, 101, 110, 116, 115], [105, 110, 115, 116, 97, 110, 99, 101, 111, 102], [105, 110, 116, 101, 114, 102, 97, 99, 101], [110, 101, 119], [110, 117, 108, 108], [112, 117, 98, 108, 105, 99], [114, 101, 116, 117, 114, 110], [116, 104, 114, 111, 119], [116, 114, 117, 101], [116, 114, 121], [119, 104, 105, 108, 101], [121, 105, 101, 108, 100]]
def wordB (l : List UInt8) : Bool := wordList.contains l
def wordsText : List UInt8 := 32 :: wordList.flatMap (fun w => w ++ [32])

/-- Between blanks: l stands among the words of a text of words just when it is one of them. -/
theorem pre_eq : ∀ {u l r R : List UInt8}, 32 ∉ u → 32 ∉ l → l ++ 32 :: r = u ++ 32 :: R → l = u
  | [], [], _, _, _, _, _ => rfl
  | [], c :: l, _, _, _, hl, h => by simp at h; simp [h.1] at hl
  | c :: u, [], _, _, hu, _, h => by simp at h; simp [h.1] at hu
  | c :: u, d :: l, r, R, hu, hl, h => by
    simp only [List.cons_append, List.cons.injEq] at h
    obtain ⟨rfl, h⟩ := h
    rw [pre_eq (fun e => hu (List.mem_cons_of_mem _ e)) (fun e => hl (List.mem_cons_of_mem _ e)) h]
theorem contains_nil (p : List UInt8) : Lib.contains [] p = p.isEmpty := by
  unfold Lib.contains Lib.index
  cases p <;> simp
theorem contains_cons (b : UInt8) (l p : List UInt8) : Lib.contains (b :: l) p = (p.isPrefixOf (b :: l) || Lib.contains l p) := by
  unfold Lib.contains
  rw [Lib.index]
  by_cases h : p.isPrefixOf (b :: l) = true
  · simp [h]
  · simp only [h, Bool.false_eq_true, if_false, Bool.false_or]
    by_cases h2 : Lib.index l p = -1
    · simp [h2]
    · simp only [beq_iff_eq, h2, if_false]
      have := Lib.index_ge l p
      rw [Bool.eq_iff_iff]
      simp only [decide_eq_true_eq]
      omega
theorem contains_skip (q X : List UInt8) : ∀ (w : List UInt8), 32 ∉ w → Lib.contains (w ++ X) (32 :: q) = Lib.contains X (32 :: q)
  | [], _ => rfl
  | c :: w, h => by
    rw [List.cons_append, contains_cons, contains_skip q X w (fun e => h (List.mem_cons_of_mem _ e))]
    have : (32 == c) = false := by
      apply beq_false_of_ne
      rintro rfl
      simp at h
    rw [show (32 :: q).isPrefixOf (c :: (w ++ X)) = false from by simp only [List.isPrefixOf, this, Bool.false_and], Bool.false_or]
theorem prefix_iff {l w R : List UInt8} (hl : 32 ∉ l) (hw : 32 ∉ w) : (32 :: (l ++ [32])).isPrefixOf (32 :: (w ++ 32 :: R)) = (w == l) := by
  rw [Bool.eq_iff_iff, List.isPrefixOf_iff_prefix, beq_iff_eq]
  constructor
  · rintro ⟨r, h⟩
    simp only [List.cons_append, List.cons.injEq, true_and, List.append_assoc, List.singleton_append] at h
    exact (pre_eq hw hl h).symm
  · rintro rfl
    exact ⟨R, by simp⟩
theorem contains_list (l : List UInt8) (hl : 32 ∉ l) : ∀ (ws : List (List UInt8)), (∀ w ∈ ws, 32 ∉ w) → Lib.contains (32 :: ws.flatMap (fun w => w ++ [32])) (32 :: (l ++ [32])) = ws.contains l
  | [], _ => by
    rw [List.flatMap_nil, contains_cons, contains_nil]
    simp
  | w :: ws, h => by
    have hw := h w List.mem_cons_self
    have ih := contains_list l hl ws (fun x hx => h x (List.mem_cons_of_mem _ hx))
    rw [List.flatMap_cons, List.append_assoc, List.singleton_append, contains_cons, prefix_iff hl hw, contains_skip _ _ _ hw, ih, List.contains_cons]
    congr 1
    rw [Bool.eq_iff_iff, beq_iff_eq, beq_iff_eq]
    exact eq_comm
theorem no_blank (ws : List (List UInt8)) (hws : ∀ w ∈ ws, 32 ∉ w) (l : List UInt8) (h : 32 ∈ l) : ws.contains l = false := by
  rw [Bool.eq_false_iff]
  intro hc
  exact hws l (by simpa using hc) h
theorem words_plain : ∀ w ∈ wordList, 32 ∉ w := by decide
theorem words_contain (l : List UInt8) (h : 32 ∉ l) : Lib.contains wordsText (32 :: (l ++ [32])) = wordB l := contains_list l h wordList words_plain
theorem blank_iff (l : List UInt8) : decide (0 ≤ Lib.indexByte l 32) = decide (32 ∈ l) := by
  induction l with
  | nil => decide
  | cons b l ih =>
    have hge : -1 ≤ Lib.indexByte l 32 := Lib.indexByte_ge l 32
    rw [Bool.eq_iff_iff, decide_eq_true_eq, decide_eq_true_eq] at ih ⊢
    rw [Lib.indexByte]
    by_cases h : b = 32
    · subst h; simp
    · have h' : (b == 32) = false := beq_false_of_ne h
      rw [h']
      simp only [Bool.false_eq_true, if_false, List.mem_cons]
      by_cases h2 : Lib.indexByte l 32 = -1
      · rw [h2] at ih ⊢
        simp only [beq_self_eq_true, if_true]
        constructor
        · intro h3; omega
        · rintro (h3 | h3)
          · exact absurd h3.symm h
          · have := ih.2 h3; omega
      · rw [if_neg (by simpa using h2)]
        constructor
        · intro _; exact .inr (ih.1 (by omega))
        · intro _; omega

theorem contains_any (s sub : ByteArray) (hs : s.size < 4294967281) (w : World) (hg : Glob w) :
    Calls Tryz.prog 203 #[.string s, .string sub] w fun e w' => e = .returned (.bool (Lib.contains s.data.toList sub.data.toList)) ∧ w = w' := by
  obtain ⟨m, hm⟩ := hg.max
  refine (Tryz.strings_Contains s sub m w hs hm).mono ?_
  rintro e w' ⟨rfl, rfl⟩
  exact ⟨rfl, rfl⟩
theorem contains_blank (s : ByteArray) (w : World) :
    Calls Tryz.prog 203 #[.string s, .string ⟨#[32]⟩] w fun e w' => e = .returned (.bool (decide (32 ∈ s.data.toList))) ∧ w = w' := by
  refine (Tryz.strings_Contains_one s 32 w).mono ?_
  rintro e w' ⟨rfl, rfl⟩
  exact ⟨by rw [blank_iff], rfl⟩
def wordsStr : ByteArray := ⟨wordsText.toArray⟩
set_option maxRecDepth 100000 in
theorem wordsStr_size : wordsStr.size < 4294967281 := by decide
set_option maxRecDepth 100000 in
theorem word_any (s : ByteArray) (hs : s.size ≤ 140737488355328) (w : World) (hg : Glob w) : Calls Tryz.prog 119 #[.string s] w fun e w' => e = .returned (.bool (wordB s.data.toList)) ∧ w = w' := by
  have HG := Lib.hid hg
  clear hg
  by_cases h0 : s.data.toList = []
  · have h1 : s.toList = [] := by rw [ByteArray.toList_eq]; exact h0
    have H0 := Lib.hid h0
    clear h0
    go_enter Tryz.func119, Tryz.ntmps119
    go_wp2
    go_ret
    exact ⟨ret_bool (by rw [H0.out]; decide), rfl⟩
  · have h1 : s.toList ≠ [] := by rw [ByteArray.toList_eq]; exact h0
    have h2 : (!s.toList.isEmpty) = true := by simpa using h1
    have c1 := contains_blank s
    by_cases hb : 32 ∈ s.data.toList
    · rw [decide_eq_true hb] at c1
      have C1 := Lib.hid c1
      have HB := Lib.hid hb
      clear c1 hb h0
      go_enter Tryz.func119, Tryz.ntmps119
      go_wp2_with (go_at_call 203; refine (C1.out _).mono ?_; rintro e w' ⟨rfl, rfl⟩)
      go_ret
      exact ⟨ret_bool (by rw [wordB, no_blank _ words_plain _ HB.out]), rfl⟩
    · rw [decide_eq_false hb] at c1
      have C1 := Lib.hid c1
      have HB := Lib.hid hb
      clear c1 hb h0
      have c2 : ∀ w, Glob w → Calls Tryz.prog 203 #[.string wordsStr, .string ((⟨#[32]⟩ : ByteArray) ++ s ++ (⟨#[32]⟩ : ByteArray))] w fun e w' => e = .returned (.bool (wordB s.data.toList)) ∧ w = w' := by
        intro w hg
        refine (contains_any wordsStr _ wordsStr_size w hg).mono ?_
        rintro e w' ⟨rfl, rfl⟩
        refine ⟨ret_bool ?_, rfl⟩
        rw [← words_contain _ HB.out]
        simp [wordsStr]
      have C2 := Lib.hid c2
      clear c2
      go_enter Tryz.func119, Tryz.ntmps119
      go_wp2_with fail
      refine (C1.out _).mono ?_
      rintro e w' ⟨rfl, rfl⟩
      go_wp2_with fail
      refine (C2.out _ HG.out).mono ?_
      rintro e w' ⟨rfl, rfl⟩
      go_wp2
      go_ret
      exact ⟨rfl, rfl⟩

/-- Is a text a name? -/
def nameB (l : List UInt8) : Bool := !l.isEmpty && decide (l.length ≤ 24) && headB (l.headD 0) && (spanL partB l == l.length) && !wordB l
theorem name_any (s : ByteArray) (hs : s.size ≤ 140737488355328) (w : World) (hg : Glob w) : Calls Tryz.prog 120 #[.string s] w fun e w' => e = .returned (.bool (nameB s.data.toList)) ∧ w = w' := by
  have HG := Lib.hid hg
  clear hg
  have hl : s.data.toList.length = s.size := by simp
  by_cases h0 : s.data.toList = []
  · have h1 : s.toList = [] := by rw [ByteArray.toList_eq]; exact h0
    have H0 := Lib.hid h0
    clear h0 hl
    go_enter Tryz.func120, Tryz.ntmps120
    go_wp2
    go_ret
    exact ⟨ret_bool (by rw [H0.out]; rfl), rfl⟩
  · have h1 : s.toList ≠ [] := by rw [ByteArray.toList_eq]; exact h0
    have h2 : (!s.toList.isEmpty) = true := by simpa using h1
    have hpos : 0 < s.size := by
      rcases Nat.eq_zero_or_pos s.size with h | h
      · exact absurd (List.eq_nil_of_length_eq_zero (by omega)) h0
      · exact h
    have e1 : nameB s.data.toList = (decide (s.size ≤ 24) && headB s[0] && (spanL partB s.data.toList == s.size) && !wordB s.data.toList) := by
      have e : s.data.toList.headD 0 = s[0] := by
        cases hd : s.data.toList with
        | nil => exact absurd hd h0
        | cons c r => rw [byte_at]; simp [hd]
      have e2 : s.data.toList.isEmpty = false := by simpa using h0
      rw [nameB, e, e2, hl]; rfl
    have ch := head_any s[0]
    have cs := span_part s (by omega)
    have cw := word_any s hs
    have hn := spanL_le partB s.data.toList
    generalize nameB s.data.toList = R at e1 ⊢
    generalize headB s[0] = b1 at e1 ch
    generalize spanL partB s.data.toList = n at e1 cs hn
    generalize wordB s.data.toList = b3 at e1 cw
    have CH := Lib.hid ch
    have CS := Lib.hid cs
    have CW := Lib.hid cw
    have E1 := Lib.hid e1
    clear ch cs cw e1 h0 hl
    by_cases h24 : s.size ≤ 24
    · cases b1
      · go_enter Tryz.func120, Tryz.ntmps120
        go_wp2_with (go_at_call 117; refine (CH.out _).mono ?_; rintro e w' ⟨rfl, rfl⟩)
        go_ret
        exact ⟨ret_bool (by rw [E1.out]; simp), rfl⟩
      · by_cases hn2 : n = s.size
        · have HN := Lib.hid hn2
          have hn3 : ((n : Int) == (s.size : Int)) = true := by simpa using congrArg (fun x : Nat => (x : Int)) hn2
          clear hn2
          go_enter Tryz.func120, Tryz.ntmps120
          go_wp2_with fail
          refine (CH.out _).mono ?_
          rintro e w' ⟨rfl, rfl⟩
          go_wp2_with fail
          refine (CS.out _).mono ?_
          rintro e w' ⟨rfl, rfl⟩
          go_wp2_with fail
          refine (CW.out _ HG.out).mono ?_
          rintro e w' ⟨rfl, rfl⟩
          go_wp2
          go_ret
          exact ⟨ret_bool (by rw [E1.out, HN.out]; simp [h24]), rfl⟩
        · have HN := Lib.hid hn2
          have hn3 : ((n : Int) == (s.size : Int)) = false := by
            apply beq_false_of_ne
            omega
          clear hn2
          go_enter Tryz.func120, Tryz.ntmps120
          go_wp2_with fail
          refine (CH.out _).mono ?_
          rintro e w' ⟨rfl, rfl⟩
          go_wp2_with fail
          refine (CS.out _).mono ?_
          rintro e w' ⟨rfl, rfl⟩
          go_wp2
          go_ret
          exact ⟨ret_bool (by rw [E1.out, beq_false_of_ne HN.out]; simp), rfl⟩
    · go_enter Tryz.func120, Tryz.ntmps120
      go_wp2
      go_ret
      exact ⟨ret_bool (by rw [E1.out]; simp [h24]), rfl⟩
end Go.Proofs.YtneekcggbnodnaaGreatDoor
