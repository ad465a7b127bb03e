/- The walk of LexJoins: it answers true. -/
import Derived.Test.YtneekcggbnodnaaDoorLexLater
import Derived.Test.YtneekcggbnodnaaDoorLexLinesWalk
namespace Go.Proofs.YtneekcggbnodnaaDoor
open Go Go.RowKit Go.Lib
set_option linter.unusedSimpArgs false
set_option linter.unusedVariables false

theorem tok_inl (s : ByteArray) (hs : s.size ≤ 65536) (ln : Int) (h : lexL s.data.toList = .inl ln) (w : World) (hg : Glob w) : Calls Tryd.prog 15 #[.string s] w fun e w' => e = .returned (.tuple #[.slice none 0 0, .int .i64 ln, .int .i64 6]) ∧ Below w.heap.size w w' := by
  refine (tokens_any s (by omega) w hg).mono ?_
  rintro e w' ⟨hb, h1⟩
  rw [if_neg (by omega), h] at h1
  exact ⟨h1, hb⟩
theorem tok_inr (s : ByteArray) (hs : s.size ≤ 65536) (l : List Tk) (h : lexL s.data.toList = .inr l) (w : World) (hg : Glob w) : Calls Tryd.prog 15 #[.string s] w fun e w' => ∃ a c, e = .returned (.tuple #[.slice a l.length c, .int .i64 0, .int .i64 0]) ∧ Below w.heap.size w w' ∧ Toks w.heap.size w' (.slice a l.length c) l := by
  refine (tokens_any s (by omega) w hg).mono ?_
  rintro e w' ⟨hb, h1⟩
  rw [if_neg (by omega), h] at h1
  obtain ⟨v, rfl, ho⟩ := h1
  obtain ⟨a, c, rfl⟩ := Toks.form ho
  exact ⟨a, c, rfl, hb, ho⟩
/-- Tokens, whatever it answers. -/
theorem tok_some (s : ByteArray) (hs : s.size ≤ 65536) (w : World) (hg : Glob w) : Calls Tryd.prog 15 #[.string s] w fun e w' => ∃ (a : Option Addr) (n c : Nat) (x y : Int), e = .returned (.tuple #[.slice a n c, .int .i64 x, .int .i64 y]) ∧ Below w.heap.size w w' := by
  rcases h : lexL s.data.toList with e | l
  · refine (tok_inl s hs e h w hg).mono ?_
    rintro e w' ⟨rfl, hb⟩
    exact ⟨_, _, _, _, _, rfl, hb⟩
  · refine (tok_inr s hs l h w hg).mono ?_
    rintro e w' ⟨a, c, rfl, hb, _⟩
    exact ⟨_, _, _, _, _, rfl, hb⟩
theorem join_size (a b : ByteArray) : (a ++ (⟨#[10]⟩ : ByteArray) ++ b).size = a.size + 1 + b.size := by simp; rfl
theorem join_lex (a b : ByteArray) : lexL (a ++ (⟨#[10]⟩ : ByteArray) ++ b).data.toList = match lexL a.data.toList with
    | .inl e => .inl e
    | .inr l => thenR l (upR ((feeds a.data.toList : Int) + 1) (lexL b.data.toList)) := by
  have e1 : (a ++ (⟨#[10]⟩ : ByteArray) ++ b).data.toList = a.data.toList ++ 10 :: b.data.toList := by simp
  rw [e1, lexL, lexF_join b.data.toList a.data.toList.length _ a.data.toList 0 (Nat.le_refl _) (by simp; omega)]
  rw [show (0 : Int) + (feeds a.data.toList : Int) + 1 = 0 + ((feeds a.data.toList : Int) + 1) by omega, lexF_line]
  rfl
set_option maxHeartbeats 4000000 in
set_option maxRecDepth 100000 in
/-- Where the first text is none. -/
theorem joins_a (a b : ByteArray) (h : a.size + b.size < 65536) (ln : Int) (ha : lexL a.data.toList = .inl ln) (w : World) (hg : Glob w) : Calls Tryd.prog 5 #[.string a, .string b] w fun e w' => e = .returned (.bool true) ∧ Below w.heap.size w w' := by
  have hj : lexL (a ++ (⟨#[10]⟩ : ByteArray) ++ b).data.toList = .inl ln := by rw [join_lex, ha]
  have T1 := Lib.hid (tok_inl a (by omega) ln ha)
  have T2 := Lib.hid (tok_some b (by omega))
  have T3 := Lib.hid (tok_inl (a ++ (⟨#[10]⟩ : ByteArray) ++ b) (by rw [join_size]; omega) ln hj)
  have hfl := feeds_le a.data.toList
  rw [size_of] at hfl
  obtain ⟨F, hF⟩ : ∃ F, F = feeds a.data.toList := ⟨_, rfl⟩
  have FQ := Lib.hid (feeds_any a (by omega))
  rw [← hF] at hfl FQ
  have HG := Lib.hid hg
  have p1 : (a.size : Int) ≤ 65535 := by omega
  have p2 : (b.size : Int) ≤ 65535 := by omega
  have d1 : decide ((a.size : Int) + (b.size : Int) ≥ 65536) = false := decide_eq_false (by omega)
  have HH := Lib.hid h
  clear ha hj hF hg h
  go_enter Tryd.func5, Tryd.ntmps5
  go_wp2_with fail
  refine (T1.out _ HG.out).mono ?_
  rintro e w1 ⟨rfl, hb1⟩
  have HG1 := Lib.hid (HG.out.below hb1)
  have HB1 := Lib.hid hb1
  clear hb1
  go_wp2_with fail
  refine (T2.out _ HG1.out).mono ?_
  rintro e w2 ⟨a2, n2, c2, x2, y2, rfl, hb2⟩
  have HG2 := Lib.hid (HG1.out.below hb2)
  have HB2 := Lib.hid (Below.step HB1.out hb2)
  clear hb2
  go_wp2_with fail
  refine (T3.out _ HG2.out).mono ?_
  rintro e w3 ⟨rfl, hb3⟩
  have HG3 := Lib.hid (HG2.out.below hb3)
  have HB3 := Lib.hid (Below.step HB2.out hb3)
  clear hb3
  go_wp2_with (first
    | (go_at_call 16; refine (FQ.out _).mono ?_; rintro e w4 ⟨rfl, rfl⟩)
    | (go_at_call 12; refine (alive_any _ HG3.out).mono ?_; rintro e w5 ⟨rfl, hb5⟩))
  go_ret
  exact ⟨rfl, Below.step HB3.out hb5⟩
set_option maxHeartbeats 4000000 in
set_option maxRecDepth 100000 in
/-- Where the second text is none. -/
theorem joins_b (a b : ByteArray) (h : a.size + b.size < 65536) (l : List Tk) (ln : Int) (ha : lexL a.data.toList = .inr l) (hb : lexL b.data.toList = .inl ln) (w : World) (hg : Glob w) : Calls Tryd.prog 5 #[.string a, .string b] w fun e w' => e = .returned (.bool true) ∧ Below w.heap.size w w' := by
  have hj : lexL (a ++ (⟨#[10]⟩ : ByteArray) ++ b).data.toList = .inl (ln + ((feeds a.data.toList : Int) + 1)) := by rw [join_lex, ha, hb]; rfl
  have hf := lexF_facts b.data.toList.length b.data.toList 0 (Nat.le_refl _)
  rw [show lexF b.data.toList.length b.data.toList 0 = .inl ln from hb] at hf
  have hfl := feeds_le a.data.toList
  rw [size_of] at hfl
  have hflb := feeds_le b.data.toList
  rw [size_of] at hflb
  obtain ⟨l0, l1⟩ : 0 ≤ ln ∧ ln ≤ 65536 := ⟨hf.1, by have := hf.2; omega⟩
  obtain ⟨F, hF⟩ : ∃ F, F = feeds a.data.toList := ⟨_, rfl⟩
  rw [← hF] at hfl hj
  have T1 := Lib.hid (tok_inr a (by omega) l ha)
  have T2 := Lib.hid (tok_inl b (by omega) ln hb)
  have T3 := Lib.hid (tok_inl (a ++ (⟨#[10]⟩ : ByteArray) ++ b) (by rw [join_size]; omega) _ hj)
  have FQ := Lib.hid (feeds_any a (by omega))
  rw [← hF] at FQ
  have HG := Lib.hid hg
  have p1 : (a.size : Int) ≤ 65535 := by omega
  have p2 : (b.size : Int) ≤ 65535 := by omega
  have d1 : decide ((a.size : Int) + (b.size : Int) ≥ 65536) = false := decide_eq_false (by omega)
  have HH := Lib.hid h
  clear ha hb hj hF hg hf hflb h
  go_enter Tryd.func5, Tryd.ntmps5
  go_wp2_with fail
  refine (T1.out _ HG.out).mono ?_
  rintro e w1 ⟨a1, c1, rfl, hb1, ht1⟩
  have HG1 := Lib.hid (HG.out.below hb1)
  have HB1 := Lib.hid hb1
  clear hb1 ht1
  go_wp2_with fail
  refine (T2.out _ HG1.out).mono ?_
  rintro e w2 ⟨rfl, hb2⟩
  have HG2 := Lib.hid (HG1.out.below hb2)
  have HB2 := Lib.hid (Below.step HB1.out hb2)
  clear hb2
  go_wp2_with fail
  refine (T3.out _ HG2.out).mono ?_
  rintro e w3 ⟨rfl, hb3⟩
  have HG3 := Lib.hid (HG2.out.below hb3)
  have HB3 := Lib.hid (Below.step HB2.out hb3)
  clear hb3
  go_wp2_with (first
    | (go_at_call 16; refine (FQ.out _).mono ?_; rintro e w4 ⟨rfl, rfl⟩)
    | (go_at_call 12; refine (alive_any _ HG3.out).mono ?_; rintro e w5 ⟨rfl, hb5⟩))
  go_ret
  exact ⟨rfl, Below.step HB3.out hb5⟩
theorem cells_one (l : List Tk) : ∀ u ∈ l.flatMap Tk.cells, u.oneCell' = true := by
  intro u hu
  obtain ⟨t, _, ht⟩ := List.mem_flatMap.1 hu
  simp only [Tk.cells, List.mem_cons, List.not_mem_nil, or_false] at ht
  rcases ht with rfl | rfl | rfl | rfl <;> rfl
/-- Behind the append: both lists read the same. -/
theorem joins_app {B0 B1 g : Nat} {w5 w6 : World} {a3 : Option Addr} {c3 k : Nat} {v' : Value} {l m : List Tk} (h3 : Toks B0 w5 (.slice a3 k c3) (l ++ m)) (hB : ∀ j, (Value.slice a3 k c3).ownBlock = some j → j < B1) (hg : B1 ≤ g)
    (ho : w6.ownsRow B1 31 4 v' (l.length + m.length) (l.flatMap Tk.cells ++ m.flatMap Tk.cells)) (hgr : w5.grownBy w6 (some g)) : Toks B0 w6 (.slice a3 k c3) (l ++ m) ∧ Toks B1 w6 v' (l ++ m) := by
  refine ⟨World.ownsRow.kept h3 hgr ?_, ?_⟩
  · rcases hv : (Value.slice a3 k c3).ownBlock with _ | j
    · exact .inl rfl
    · exact .inr (by intro e; have := hB j hv; simp at e; omega)
  · unfold Toks
    rw [List.length_append, List.flatMap_append]
    exact ho
set_option maxHeartbeats 8000000 in
set_option maxRecDepth 100000 in
theorem joins_c (a b : ByteArray) (h : a.size + b.size < 65536) (l m : List Tk) (ha : lexL a.data.toList = .inr l) (hb : lexL b.data.toList = .inr m) (w : World) (hg : Glob w) : Calls Tryd.prog 5 #[.string a, .string b] w fun e w' => e = .returned (.bool true) ∧ Below w.heap.size w w' := by
  have hla := lines_ok ha (by rw [size_of]; omega)
  have hlb := lines_ok hb (by rw [size_of]; omega)
  have hfl := feeds_le a.data.toList
  have hflb := feeds_le b.data.toList
  rw [size_of] at hfl hflb
  obtain ⟨F, hF⟩ : ∃ F, F = feeds a.data.toList := ⟨_, rfl⟩
  have hj : lexL (a ++ (⟨#[10]⟩ : ByteArray) ++ b).data.toList = .inr (l ++ m.map (Tk.up ((F : Int) + 1))) := by rw [join_lex, ha, hb, ← hF]; rfl
  have hll := hla.len
  have hml := hlb.len
  rw [size_of] at hll hml
  have hmline : ∀ i (hi : i < m.length), 0 ≤ m[i].line ∧ m[i].line ≤ 1000000 := fun i hi => by
    have := hlb.line i hi
    exact ⟨this.1, by omega⟩
  rw [← hF] at hfl
  have T1 := Lib.hid (tok_inr a (by omega) l ha)
  have T2 := Lib.hid (tok_inr b (by omega) m hb)
  have T3 := Lib.hid (tok_inr (a ++ (⟨#[10]⟩ : ByteArray) ++ b) (by rw [join_size]; omega) _ hj)
  have FQ := Lib.hid (feeds_any a (by omega))
  rw [← hF] at FQ
  have HG := Lib.hid hg
  have HML := Lib.hid hmline
  have p1 : (a.size : Int) ≤ 65535 := by omega
  have p2 : (b.size : Int) ≤ 65535 := by omega
  have d1 : decide ((a.size : Int) + (b.size : Int) ≥ 65536) = false := decide_eq_false (by omega)
  obtain ⟨i0, hi, hz0, hz1, hz2⟩ := info_parts infoTok
  have HH := Lib.hid h
  clear ha hb hj hF hg hla hlb hflb hmline h
  go_enter Tryd.func5, Tryd.ntmps5
  go_wp2_with fail
  refine (T1.out _ HG.out).mono ?_
  rintro e w1 ⟨a1, c1, rfl, hb1, ht1⟩
  have HG1 := Lib.hid (HG.out.below hb1)
  have HB1 := Lib.hid hb1
  have HT1 := Lib.hid ht1
  clear hb1 ht1 T1
  go_wp2_with fail
  refine (T2.out _ HG1.out).mono ?_
  rintro e w2 ⟨a2, c2, rfl, hb2, ht2⟩
  have HG2 := Lib.hid (HG1.out.below hb2)
  have HB2 := Lib.hid (Below.step HB1.out hb2)
  have HT12 := Lib.hid (HT1.out.below hb2)
  have HT2 := Lib.hid ht2
  clear hb2 ht2 T2 HT1
  go_wp2_with fail
  refine (T3.out _ HG2.out).mono ?_
  rintro e w3 ⟨a3, c3, rfl, hb3, ht3⟩
  have HG3 := Lib.hid (HG2.out.below hb3)
  have HB3 := Lib.hid (Below.step HB2.out hb3)
  have HT13 := Lib.hid (HT12.out.below hb3)
  have HT23 := Lib.hid (HT2.out.below hb3)
  have HT3 := Lib.hid ht3
  have hlen3 : (l ++ m.map (Tk.up ((F : Int) + 1))).length = l.length + m.length := by simp
  rw [hlen3] at HT3
  have HLEN := Lib.hid hlen3
  clear hb3 ht3 T3 HT12 HT2
  rw [HLEN.out]
  clear hlen3
  have hF1 : (0 : Int) ≤ (F : Int) + 1 := by omega
  have hF2 : (F : Int) + 1 ≤ 1000000 := by omega
  have TW := Lib.hid (twin_any _ _ l w3 HT13.out (by have := HH.out; omega))
  go_wp2_with (go_at_call 16; refine (FQ.out _).mono ?_; rintro e w4 ⟨rfl, rfl⟩)
  refine TW.out.mono ?_
  rintro e w4 ⟨hb4, g4, rfl, ht4⟩
  have HB4 := Lib.hid hb4
  have HT24 := Lib.hid (HT23.out.below hb4)
  have HT34 := Lib.hid (Toks.below HT3.out hb4)
  have HT4 := Lib.hid ht4
  clear hb4 ht4 TW
  have LA := Lib.hid (later_any _ _ m ((F : Int) + 1) w4 HT24.out (by have := HH.out; omega) hF1 hF2 HML.out)
  go_wp2_with fail
  refine LA.out.mono ?_
  rintro e w5 ⟨hb5, g5, rfl, ht5⟩
  have HB5 := Lib.hid hb5
  have HT35 := Lib.hid (Toks.below HT34.out hb5)
  have HT45 := Lib.hid (HT4.out.below hb5)
  have HT5 := Lib.hid ht5
  clear hb5 ht5 LA
  have hml2 : (m.map (Tk.up ((F : Int) + 1))).length = m.length := by simp
  have hnl : ((m.map (Tk.up ((F : Int) + 1))).flatMap Tk.cells).length = m.length * 4 := by rw [tk_len, hml2]
  have hsrc : Hid (∀ j u, ((m.map (Tk.up ((F : Int) + 1))).flatMap Tk.cells)[j]? = some u → w5.cell? ((⟨g5, 0, none⟩ : Addr).add j) = some u) := fun j u hj => World.ownsRow.cells HT5.out (g := g5) rfl j u hj
  have hone := cells_one (m.map (Tk.up ((F : Int) + 1)))
  have hbase : w3.heap.size ≤ w5.heap.size := Nat.le_trans HB4.out.size HB5.out.size
  have hq1 : l.length + m.length ≤ maxLen := by have := HH.out; unfold maxLen; omega
  have hq2 : (l.length + m.length) * 40 ≤ 140737488355328 := by have := HH.out; omega
  have Q1 := Lib.hid hnl
  have Q2 := Lib.hid hone
  have Q3 := Lib.hid hbase
  have Q4 := Lib.hid hq1
  have Q5 := Lib.hid hq2
  have Q6 := Lib.hid hml2
  clear hml2 hnl hone hbase hq1 hq2
  go_wp2_with (at_builtin; refine BigFrame.wpList_want rfl (fun K hK => wp_append_own _ (.tmp 87) (.tmp 90) 25 rfl w3.heap.size 31 i0 _ 4 40 Tryd.underlying25 hi hz0 hz1 hz2 rfl (by decide) _ _ _ rfl HT45.out ⟨g5, 0, none⟩ m.length (m.length + 2) ((m.map (Tk.up ((F : Int) + 1))).flatMap Tk.cells) rfl Q1.out hsrc.out Q2.out Q4.out Q5.out Q3.out (fun v' w6 ho hgr _ => hK _ _ ?_)))
  clear hK K
  have hgl := HT45.out.atBlock.2.1
  have hsame := joins_app (B1 := w3.heap.size) (v' := v') HT35.out (fun j hj => (World.ownsRow.lt HT3.out j hj).2) hgl (by rw [Q6.out]; exact ho) hgr
  have HB6 : Hid (Below w3.heap.size w3 w6) := (HB4.out.trans (HB5.out.mono HB4.out.size)).grown hgr Q3.out (fun k hk => by cases hk; exact hgl)
  obtain ⟨a6, c6, rfl⟩ := hsame.2.form
  have SM := Lib.hid (same_any _ _ _ _ _ w6 hsame.1 hsame.2 (by rw [HLEN.out]; omega))
  rw [HLEN.out] at SM
  clear ho hgr hgl hsame
  rw [HLEN.out]
  go_wp2_with fail
  refine SM.out.mono ?_
  rintro e w7 ⟨rfl, n7, rfl⟩
  have HG7 := Lib.hid (HG3.out.below (below_drewN HB6.out n7))
  have HB7 := Lib.hid (Below.step HB3.out (below_drewN HB6.out n7))
  clear SM
  go_wp2_with fail
  refine (alive_any _ HG7.out).mono ?_
  rintro e w8 ⟨rfl, hb8⟩
  go_wp2_with fail
  go_ret
  exact ⟨rfl, Below.step HB7.out hb8⟩
/-- The walk of LexJoins. -/
theorem lexJoins_walk (a b : ByteArray) (hs : a.size ≤ 140737488355328) (ht : b.size ≤ 140737488355328) (w : World) (hg : Glob w) : Calls Tryd.prog 5 #[.string a, .string b] w fun e w' => e = .returned (.bool true) ∧ Below w.heap.size w w' := by
  by_cases h : a.size + b.size < 65536
  · rcases ha : lexL a.data.toList with e | l
    · exact joins_a a b h e ha w hg
    · rcases hb : lexL b.data.toList with e | m
      · exact joins_b a b h l e ha hb w hg
      · exact joins_c a b h l m ha hb w hg
  · have m1 : (65536 : Int) ≤ (a.size : Int) + (b.size : Int) := by omega
    have HG := Lib.hid hg
    clear hg h
    go_enter Tryd.func5, Tryd.ntmps5
    go_wp2_with (go_at_call 12; refine (alive_any _ HG.out).mono ?_; rintro e w5 ⟨rfl, hb5⟩)
    go_ret
    exact ⟨rfl, hb5⟩
end Go.Proofs.YtneekcggbnodnaaDoor
