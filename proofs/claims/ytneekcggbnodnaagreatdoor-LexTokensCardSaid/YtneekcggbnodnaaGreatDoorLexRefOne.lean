/- The reference's one answers as a step does. -/
import Derived.Test.YtneekcggbnodnaaGreatDoorLexRefText
namespace Go.Proofs.YtneekcggbnodnaaGreatDoor
open Go Go.RowKit Go.Lib
set_option linter.unusedSimpArgs false
set_option linter.unusedVariables false

def OneEnd (st : Step) (w : World) (e : Ending) (w' : World) : Prop := Below w.heap.size w w' ∧ match st with
  | .tok k t x n => e = .returned (.tuple #[.agg #[.int .u8 k, .string ⟨t.toArray⟩, .int .i64 x, .int .i64 0], .int .i64 (n : Int)])
  | _ => ∃ (k : Int) (s : ByteArray) (x l : Int), e = .returned (.tuple #[.agg #[.int .u8 k, .string s, .int .i64 x, .int .i64 l], .int .i64 0])
theorem one_tok {k x : Int} {t : List UInt8} {n : Nat} {S : ByteArray} {st : Step} {w w' : World} (hst : st = .tok k t x n) (hS : (⟨t.toArray⟩ : ByteArray) = S) (hb : Below w.heap.size w w') : OneEnd st w (.returned (.tuple #[.agg #[.int .u8 k, .string S, .int .i64 x, .int .i64 0], .int .i64 (n : Int)])) w' := by
  subst hst hS
  exact ⟨hb, rfl⟩
theorem one_bad {st : Step} {k x l : Int} {S : ByteArray} {w w' : World} (hst : st = .bad) (hb : Below w.heap.size w w') : OneEnd st w (.returned (.tuple #[.agg #[.int .u8 k, .string S, .int .i64 x, .int .i64 l], .int .i64 0])) w' := by
  subst hst
  exact ⟨hb, _, _, _, _, rfl⟩
set_option maxHeartbeats 4000000 in
theorem one_name (s : ByteArray) (hs : s.size ≤ 1000000) (hs1 : 0 < s.size) (hh : headB s[0] = true) (w : World) : Calls Tryz.prog 11 #[.string s] w (OneEnd (nameStep s.data.toList) w) := by
  have P2 := refHead_any s[0]
  rw [hh] at P2
  have HD := Lib.hid P2
  have hn := spanL_le partB s.data.toList
  have hsp := refRun_names s hs
  have hl : s.data.toList.length = s.size := by simp
  rw [hl] at hn
  have hx : (s.extract 0 (spanL partB s.data.toList)).data.toList = s.data.toList.take (spanL partB s.data.toList) := by simp
  have hW := refWord_any (s.extract 0 (spanL partB s.data.toList))
  have hN := refName_any (s.extract 0 (spanL partB s.data.toList)) (by simp; omega)
  rw [hx] at hW hN
  have hT : (⟨(s.data.toList.take (spanL partB s.data.toList)).toArray⟩ : ByteArray) = s.extract 0 (spanL partB s.data.toList) := by rw [← hx]
  obtain ⟨st, hst⟩ : ∃ st, st = nameStep s.data.toList := ⟨_, rfl⟩
  rw [← hst]
  unfold nameStep at hst
  generalize s.data.toList.take (spanL partB s.data.toList) = t at *
  generalize spanL partB s.data.toList = n at *
  have hmn : (0 : Int) ≤ (n : Int) := by omega
  have hmn2 : (n : Int) ≤ (s.size : Int) := by omega
  have HSP := Lib.hid hsp
  have HT := Lib.hid hT
  have hb : Below w.heap.size w (w.alloc (.cells #[.int .u8 0, .string ⟨#[]⟩, .int .i64 0, .int .i64 0] 71)) := (Below.refl _ w).alloc (Nat.le_refl _) _
  clear hsp hl P2 hh hx hT hb
  rcases hw : wordB t with _ | _
  · rw [hw] at hW hst
    have HW := Lib.hid hW
    rcases hn' : nameB t with _ | _
    · rw [hn'] at hN hst
      have HN := Lib.hid hN
      have HST : Hid (st = .bad) := hst
      clear hW hN hw hn' hst
      go_enter Tryz.func11, Tryz.ntmps11
      go_wp2_with (first
        | (go_at_call 125; refine (HD.out _).mono ?_; rintro e w' ⟨rfl, rfl⟩)
        | (go_at_call 126; refine (HSP.out _).mono ?_; rintro e w' ⟨rfl, rfl⟩)
        | (go_at_call 127; refine (HW.out _).mono ?_; rintro e w' ⟨rfl, rfl⟩)
        | (go_at_call 128; refine (HN.out _).mono ?_; rintro e w' ⟨rfl, rfl⟩))
      exact bodyPost_ret (v := .tuple #[.agg #[.int .u8 0, .string ⟨#[]⟩, .int .i64 0, .int .i64 0], .int .i64 0]) (by simp [results, Tryz.results11, go_sem]) rfl (one_bad HST.out ((Below.refl _ w).alloc (Nat.le_refl _) _))
    · rw [hn'] at hN hst
      have HN := Lib.hid hN
      have HST : Hid (st = .tok 1 t 0 n) := hst
      clear hW hN hw hn' hst
      go_enter Tryz.func11, Tryz.ntmps11
      go_wp2_with (first
        | (go_at_call 125; refine (HD.out _).mono ?_; rintro e w' ⟨rfl, rfl⟩)
        | (go_at_call 126; refine (HSP.out _).mono ?_; rintro e w' ⟨rfl, rfl⟩)
        | (go_at_call 127; refine (HW.out _).mono ?_; rintro e w' ⟨rfl, rfl⟩)
        | (go_at_call 128; refine (HN.out _).mono ?_; rintro e w' ⟨rfl, rfl⟩))
      exact bodyPost_ret (v := .tuple #[.agg #[.int .u8 1, .string (s.extract 0 n), .int .i64 0, .int .i64 0], .int .i64 (n : Int)]) (by simp [results, Tryz.results11, go_sem]) rfl (one_tok HST.out HT.out ((Below.refl _ w).alloc (Nat.le_refl _) _))
  · rw [hw] at hW hst
    have HW := Lib.hid hW
    have HST : Hid (st = .tok 2 t 0 n) := hst
    clear hW hN hw hst
    go_enter Tryz.func11, Tryz.ntmps11
    go_wp2_with (first
      | (go_at_call 125; refine (HD.out _).mono ?_; rintro e w' ⟨rfl, rfl⟩)
      | (go_at_call 126; refine (HSP.out _).mono ?_; rintro e w' ⟨rfl, rfl⟩)
      | (go_at_call 127; refine (HW.out _).mono ?_; rintro e w' ⟨rfl, rfl⟩))
    exact bodyPost_ret (v := .tuple #[.agg #[.int .u8 2, .string (s.extract 0 n), .int .i64 0, .int .i64 0], .int .i64 (n : Int)]) (by simp [results, Tryz.results11, go_sem]) rfl (one_tok HST.out HT.out ((Below.refl _ w).alloc (Nat.le_refl _) _))
set_option maxHeartbeats 4000000 in
theorem one_var (s : ByteArray) (hs : s.size ≤ 1000000) (hs1 : 0 < s.size) (hh : headB s[0] = false) (h36 : s[0] = 36) (w : World) : Calls Tryz.prog 11 #[.string s] w (OneEnd (varStep (s.data.toList.drop 1)) w) := by
  have e36 : ((s[0].toNat : Int) == 36) = true := byte_is 36 (by decide) h36
  have P2 := refHead_any s[0]
  rw [hh] at P2
  have HD := Lib.hid P2
  have hr : (s.extract 1 s.size).data.toList = s.data.toList.drop 1 := drop_list s 1
  have hsp := refRun_names (s.extract 1 s.size) (by simp; omega)
  rw [hr] at hsp
  have hn := spanL_le partB (s.data.toList.drop 1)
  have hl : s.data.toList.length = s.size := by simp
  rw [List.length_drop, hl] at hn
  have hx : (s.extract 1 (1 + spanL partB (s.data.toList.drop 1))).data.toList = (s.data.toList.drop 1).take (spanL partB (s.data.toList.drop 1)) := by
    simp only [ByteArray.data_extract, Array.toList_extract, List.extract_eq_take_drop]
    rw [Nat.add_sub_cancel_left]
  have hN := refName_any (s.extract 1 (1 + spanL partB (s.data.toList.drop 1))) (by simp; omega)
  rw [hx] at hN
  have hT : (⟨((s.data.toList.drop 1).take (spanL partB (s.data.toList.drop 1))).toArray⟩ : ByteArray) = s.extract 1 (1 + spanL partB (s.data.toList.drop 1)) := by rw [← hx]
  obtain ⟨st, hst⟩ : ∃ st, st = varStep (s.data.toList.drop 1) := ⟨_, rfl⟩
  rw [← hst]
  unfold varStep at hst
  generalize (s.data.toList.drop 1).take (spanL partB (s.data.toList.drop 1)) = t at *
  generalize spanL partB (s.data.toList.drop 1) = n at *
  have hmn : (0 : Int) ≤ (n : Int) := by omega
  have hmn0 : (1 : Int) ≤ (s.size : Int) := by omega
  have hmn1 : (0 : Int) ≤ 1 + (n : Int) := by omega
  have hmn3 : (1 : Int) ≤ 1 + (n : Int) := by omega
  have hmn2 : 1 + (n : Int) ≤ (s.size : Int) := by omega
  have HSP := Lib.hid hsp
  have HT := Lib.hid hT
  clear hsp hl P2 hh hx hT h36 hr
  rcases hn' : nameB t with _ | _
  · rw [hn'] at hN hst
    have HN := Lib.hid hN
    have HST : Hid (st = .bad) := hst
    clear hN hn' hst
    go_enter Tryz.func11, Tryz.ntmps11
    go_wp2_with (first
      | (go_at_call 125; refine (HD.out _).mono ?_; rintro e w' ⟨rfl, rfl⟩)
      | (go_at_call 126; refine (HSP.out _).mono ?_; rintro e w' ⟨rfl, rfl⟩)
      | (go_at_call 128; refine (HN.out _).mono ?_; rintro e w' ⟨rfl, rfl⟩))
    exact bodyPost_ret (v := .tuple #[.agg #[.int .u8 0, .string ⟨#[]⟩, .int .i64 0, .int .i64 0], .int .i64 0]) (by simp [results, Tryz.results11, go_sem]) rfl (one_bad HST.out ((Below.refl _ w).alloc (Nat.le_refl _) _))
  · rw [hn'] at hN hst
    have HN := Lib.hid hN
    have HST : Hid (st = .tok 3 t 0 (1 + n)) := hst
    have hcast : (((1 + n : Nat)) : Int) = 1 + (n : Int) := by omega
    have HK := Lib.hid hcast
    clear hN hn' hst hcast
    go_enter Tryz.func11, Tryz.ntmps11
    go_wp2_with (first
      | (go_at_call 125; refine (HD.out _).mono ?_; rintro e w' ⟨rfl, rfl⟩)
      | (go_at_call 126; refine (HSP.out _).mono ?_; rintro e w' ⟨rfl, rfl⟩)
      | (go_at_call 128; refine (HN.out _).mono ?_; rintro e w' ⟨rfl, rfl⟩))
    exact bodyPost_ret (v := .tuple #[.agg #[.int .u8 3, .string (s.extract 1 (1 + n)), .int .i64 0, .int .i64 0], .int .i64 (1 + (n : Int))]) (by simp [results, Tryz.results11, go_sem]) rfl (by have := one_tok HST.out HT.out ((Below.refl _ w).alloc (Nat.le_refl _) (.cells #[.int .u8 3, .string (s.extract 1 (1 + n)), .int .i64 0, .int .i64 0] 71)); rw [HK.out] at this; exact this)
set_option maxHeartbeats 4000000 in
theorem one_number (s : ByteArray) (hs : s.size ≤ 1000000) (hs1 : 0 < s.size) (hh : headB s[0] = false) (h36 : s[0] ≠ 36) (hd : digitB s[0] = true) (w : World) : Calls Tryz.prog 11 #[.string s] w (OneEnd (numStep s.data.toList) w) := by
  have e36 : ((s[0].toNat : Int) == 36) = false := byte_ne 36 (by decide) h36
  have P2 := refHead_any s[0]
  rw [hh] at P2
  have HD := Lib.hid P2
  have P3 := refDigit_any s[0]
  rw [hd] at P3
  have HDI := Lib.hid P3
  have hn := spanL_le digitB s.data.toList
  have hsp := refRun_digits s hs
  have hl : s.data.toList.length = s.size := by simp
  rw [hl] at hn
  have hpos : 1 ≤ spanL digitB s.data.toList := by
    rcases hL : s.data.toList with _ | ⟨c, r⟩
    · rw [hL] at hl; simp at hl; omega
    · have : s[0] = c := by rw [byte_at]; simp [hL]
      rw [this] at hd
      exact span_pos hd
  have hx : (s.extract 0 (spanL digitB s.data.toList)).data.toList = s.data.toList.take (spanL digitB s.data.toList) := by simp
  have hall : ∀ c ∈ s.data.toList.take (spanL digitB s.data.toList), digitB c = true := by rw [take_span]; exact while_mem
  have hxs : (s.extract 0 (spanL digitB s.data.toList)).size = spanL digitB s.data.toList := by simp; omega
  have hN := digits_any (s.extract 0 (spanL digitB s.data.toList)) (by rw [hxs]; omega) (by rw [hxs]; omega) (by rw [hx]; exact hall)
  have hne : s.data.toList.take (spanL digitB s.data.toList) ≠ [] := by
    intro e
    have := congrArg List.length e
    rw [List.length_take, hl, List.length_nil] at this
    omega
  rw [hx, digitsR_eq _ hne hall] at hN
  have hT : (⟨(s.data.toList.take (spanL digitB s.data.toList)).toArray⟩ : ByteArray) = s.extract 0 (spanL digitB s.data.toList) := by rw [← hx]
  obtain ⟨st, hst⟩ : ∃ st, st = numStep s.data.toList := ⟨_, rfl⟩
  rw [← hst]
  unfold numStep at hst
  generalize s.data.toList.take (spanL digitB s.data.toList) = t at *
  generalize spanL digitB s.data.toList = n at *
  have hmn : (0 : Int) ≤ (n : Int) := by omega
  have hmn2 : (n : Int) ≤ (s.size : Int) := by omega
  have HSP := Lib.hid hsp
  have HT := Lib.hid hT
  clear hsp hl P2 P3 hh hx hT hd h36 hall hxs hne
  rcases hv : numV t with _ | u
  · rw [hv] at hN hst
    have HN := Lib.hid hN
    have HST : Hid (st = .bad) := hst
    clear hN hv hst
    go_enter Tryz.func11, Tryz.ntmps11
    go_wp2_with (first
      | (go_at_call 125; refine (HD.out _).mono ?_; rintro e w' ⟨rfl, rfl⟩)
      | (go_at_call 129; refine (HDI.out _).mono ?_; rintro e w' ⟨rfl, rfl⟩)
      | (go_at_call 126; refine (HSP.out _).mono ?_; rintro e w' ⟨rfl, rfl⟩)
      | (go_at_call 130; refine (HN.out _).mono ?_; rintro e w' ⟨rfl, rfl⟩))
    exact bodyPost_ret (v := .tuple #[.agg #[.int .u8 0, .string ⟨#[]⟩, .int .i64 0, .int .i64 0], .int .i64 0]) (by simp [results, Tryz.results11, go_sem]) rfl (one_bad HST.out ((Below.refl _ w).alloc (Nat.le_refl _) _))
  · rw [hv] at hN hst
    have HN := Lib.hid hN
    have HST : Hid (st = .tok 4 t (wrap64 u) n) := hst
    clear hN hv hst
    go_enter Tryz.func11, Tryz.ntmps11
    go_wp2_with (first
      | (go_at_call 125; refine (HD.out _).mono ?_; rintro e w' ⟨rfl, rfl⟩)
      | (go_at_call 129; refine (HDI.out _).mono ?_; rintro e w' ⟨rfl, rfl⟩)
      | (go_at_call 126; refine (HSP.out _).mono ?_; rintro e w' ⟨rfl, rfl⟩)
      | (go_at_call 130; refine (HN.out _).mono ?_; rintro e w' ⟨rfl, rfl⟩))
    exact bodyPost_ret (v := .tuple #[.agg #[.int .u8 4, .string (s.extract 0 n), .int .i64 (wrap64 u), .int .i64 0], .int .i64 (n : Int)]) (by simp [results, Tryz.results11, go_sem]) rfl (one_tok HST.out HT.out ((Below.refl _ w).alloc (Nat.le_refl _) _))
/-- What the token's block holds behind a call that makes memory. -/
theorem one_block {w w2 : World} {c : Array Value} {T : TypeId} (h : Below (w.alloc (.cells c T)).heap.size (w.alloc (.cells c T)) w2) : w2.heap[w.heap.size]? = some (.cells c T (0, 0)) := (h.block _ (by simp)).trans (heap_alloc_new w _)
set_option maxHeartbeats 4000000 in
theorem one_text (s : ByteArray) (hs : s.size ≤ 1000000) (hs1 : 0 < s.size) (h39 : s[0] = 39) (w : World) : Calls Tryz.prog 11 #[.string s] w (OneEnd (textStep (s.data.toList.drop 1)) w) := by
  have hl : s.data.toList.length = s.size := by simp
  have b36 : ((s[0].toNat : Int) == 36) = false := by rw [h39]; decide
  have b39 : ((s[0].toNat : Int) == 39) = true := by rw [h39]; decide
  have P2 := refHead_any s[0]
  rw [show headB s[0] = false by rw [h39]; decide] at P2
  have HD := Lib.hid P2
  have P3 := refDigit_any s[0]
  rw [show digitB s[0] = false by rw [h39]; decide] at P3
  have HDI := Lib.hid P3
  have ht := refText_any s hs (by omega) (s.size + 1) (by omega)
  have hdl : (s.data.toList.drop 1).length + 2 = s.size + 1 := by rw [List.length_drop, hl]; omega
  obtain ⟨st, hst⟩ : ∃ st, st = textStep (s.data.toList.drop 1) := ⟨_, rfl⟩
  rw [← hst]
  unfold textStep at hst
  rw [hdl] at hst
  have hq : ∀ o q, textEnd (s.size + 1) [] (s.data.toList.drop 1) = some (o, q) → (s.size : Int) - (q.length : Int) + 1 = ((s.size + 1 - q.length : Nat) : Int) := by
    intro o q e
    obtain ⟨u, q', e1, e2, _, _⟩ := textEnd_some _ _ (Nat.le_refl _) _ _ _ _ e
    have := congrArg List.length e1
    rw [List.length_append, List.length_drop, hl] at this
    omega
  generalize textEnd (s.size + 1) [] (s.data.toList.drop 1) = T at *
  have HT := Lib.hid ht
  have HQ := Lib.hid hq
  rcases T with _ | ⟨o, q⟩
  · have HST : Hid (st = .bad) := hst
    clear P2 P3 h39 hl ht hdl hq hst
    go_enter Tryz.func11, Tryz.ntmps11
    go_wp2_with (first
      | (go_at_call 125; refine (HD.out _).mono ?_; rintro e w' ⟨rfl, rfl⟩)
      | (go_at_call 129; refine (HDI.out _).mono ?_; rintro e w' ⟨rfl, rfl⟩))
    refine (HT.out _).mono ?_
    rintro e w2 ⟨hb2, rfl⟩
    have hk := one_block hb2
    have c0 : w2.cell? ⟨w.heap.size, 0, none⟩ = some (.int .u8 0) := by rw [Lib.cell_of_heap hk]; rfl
    have c1 : w2.cell? ⟨w.heap.size, 1, none⟩ = some (.string ⟨#[]⟩) := by rw [Lib.cell_of_heap hk]; rfl
    have c2 : w2.cell? ⟨w.heap.size, 2, none⟩ = some (.int .i64 0) := by rw [Lib.cell_of_heap hk]; rfl
    have c3 : w2.cell? ⟨w.heap.size, 3, none⟩ = some (.int .i64 0) := by rw [Lib.cell_of_heap hk]; rfl
    have z0 := Lib.frozen_of_heap hk 0
    have z1 := Lib.frozen_of_heap hk 1
    have z2 := Lib.frozen_of_heap hk 2
    have z3 := Lib.frozen_of_heap hk 3
    have HB2 : Hid (Below w.heap.size w w2) := ((Below.refl _ w).alloc (Nat.le_refl _) _).trans (hb2.mono (by simp))
    clear hk hb2
    go_wp2_with fail
    refine bodyPost_ret (v := .tuple #[.agg #[.int .u8 5, .string ⟨#[]⟩, .int .i64 0, .int .i64 0], .int .i64 0]) (by simp [results, Tryz.results11, go_sem, c0, c1, c2, c3]) rfl (one_bad HST.out ?_)
    exact below_setCell (below_setCell (below_setCell (below_setCell HB2.out (Nat.le_refl _) _ _) (Nat.le_refl _) _ _) (Nat.le_refl _) _ _) (Nat.le_refl _) _ _
  · have HST : Hid (st = .tok 5 o 0 (s.size + 1 - q.length)) := hst
    have HQ2 := Lib.hid (HQ.out o q rfl)
    clear P2 P3 h39 hl ht hdl hq hst HQ
    go_enter Tryz.func11, Tryz.ntmps11
    go_wp2_with (first
      | (go_at_call 125; refine (HD.out _).mono ?_; rintro e w' ⟨rfl, rfl⟩)
      | (go_at_call 129; refine (HDI.out _).mono ?_; rintro e w' ⟨rfl, rfl⟩))
    refine (HT.out _).mono ?_
    rintro e w2 ⟨hb2, rfl⟩
    rw [HQ2.out]
    have hk := one_block hb2
    have c0 : w2.cell? ⟨w.heap.size, 0, none⟩ = some (.int .u8 0) := by rw [Lib.cell_of_heap hk]; rfl
    have c1 : w2.cell? ⟨w.heap.size, 1, none⟩ = some (.string ⟨#[]⟩) := by rw [Lib.cell_of_heap hk]; rfl
    have c2 : w2.cell? ⟨w.heap.size, 2, none⟩ = some (.int .i64 0) := by rw [Lib.cell_of_heap hk]; rfl
    have c3 : w2.cell? ⟨w.heap.size, 3, none⟩ = some (.int .i64 0) := by rw [Lib.cell_of_heap hk]; rfl
    have z0 := Lib.frozen_of_heap hk 0
    have z1 := Lib.frozen_of_heap hk 1
    have z2 := Lib.frozen_of_heap hk 2
    have z3 := Lib.frozen_of_heap hk 3
    have HB2 : Hid (Below w.heap.size w w2) := ((Below.refl _ w).alloc (Nat.le_refl _) _).trans (hb2.mono (by simp))
    clear hk hb2 HT HQ2
    generalize s.size + 1 - q.length = n at HST ⊢
    go_wp2_with fail
    refine bodyPost_ret (v := .tuple #[.agg #[.int .u8 5, .string ⟨o.toArray⟩, .int .i64 0, .int .i64 0], .int .i64 (n : Int)]) (by simp [results, Tryz.results11, go_sem, c0, c1, c2, c3]) rfl (one_tok HST.out rfl ?_)
    exact below_setCell (below_setCell (below_setCell (below_setCell HB2.out (Nat.le_refl _) _ _) (Nat.le_refl _) _ _) (Nat.le_refl _) _ _) (Nat.le_refl _) _ _
set_option maxHeartbeats 4000000 in
theorem one_sign (s : ByteArray) (hs : s.size ≤ 1000000) (hs1 : 0 < s.size) (hh : headB s[0] = false) (h36 : s[0] ≠ 36) (hd : digitB s[0] = false) (h39 : s[0] ≠ 39) (w : World) : Calls Tryz.prog 11 #[.string s] w (OneEnd (signStep s.data.toList) w) := by
  have e36 : ((s[0].toNat : Int) == 36) = false := byte_ne 36 (by decide) h36
  have e39 : ((s[0].toNat : Int) == 39) = false := byte_ne 39 (by decide) h39
  have P2 := refHead_any s[0]
  rw [hh] at P2
  have HD := Lib.hid P2
  have P3 := refDigit_any s[0]
  rw [hd] at P3
  have HDI := Lib.hid P3
  have hS := refSign_any s hs
  have hnl := signN_le s.data.toList
  have hl : s.data.toList.length = s.size := by simp
  rw [hl] at hnl
  have hx : (s.extract 0 (signN s.data.toList)).data.toList = s.data.toList.take (signN s.data.toList) := by simp
  have hT : (⟨(s.data.toList.take (signN s.data.toList)).toArray⟩ : ByteArray) = s.extract 0 (signN s.data.toList) := by rw [← hx]
  obtain ⟨st, hst⟩ : ∃ st, st = signStep s.data.toList := ⟨_, rfl⟩
  rw [← hst]
  unfold signStep at hst
  generalize s.data.toList.take (signN s.data.toList) = t at *
  generalize signN s.data.toList = n at *
  have hmn : (0 : Int) ≤ (n : Int) := by omega
  have hmn2 : (n : Int) ≤ (s.size : Int) := by omega
  have HS := Lib.hid hS
  have HT := Lib.hid hT
  have HST := Lib.hid hst
  clear P2 P3 hh h36 hd h39 hx hT hS hl hst
  go_enter Tryz.func11, Tryz.ntmps11
  go_wp2_with (first
    | (go_at_call 125; refine (HD.out _).mono ?_; rintro e w' ⟨rfl, rfl⟩)
    | (go_at_call 129; refine (HDI.out _).mono ?_; rintro e w' ⟨rfl, rfl⟩))
  refine (HS.out _).mono ?_
  rintro e w2 ⟨rfl, hb2⟩
  have hk := one_block hb2
  have c0 : w2.cell? ⟨w.heap.size, 0, none⟩ = some (.int .u8 0) := by rw [Lib.cell_of_heap hk]; rfl
  have c1 : w2.cell? ⟨w.heap.size, 1, none⟩ = some (.string ⟨#[]⟩) := by rw [Lib.cell_of_heap hk]; rfl
  have c2 : w2.cell? ⟨w.heap.size, 2, none⟩ = some (.int .i64 0) := by rw [Lib.cell_of_heap hk]; rfl
  have c3 : w2.cell? ⟨w.heap.size, 3, none⟩ = some (.int .i64 0) := by rw [Lib.cell_of_heap hk]; rfl
  have z0 := Lib.frozen_of_heap hk 0
  have z1 := Lib.frozen_of_heap hk 1
  have z2 := Lib.frozen_of_heap hk 2
  have z3 := Lib.frozen_of_heap hk 3
  have HB2 : Hid (Below w.heap.size w w2) := ((Below.refl _ w).alloc (Nat.le_refl _) _).trans (hb2.mono (by simp))
  clear hk hb2 HS
  go_wp2_with fail
  refine bodyPost_ret (v := .tuple #[.agg #[.int .u8 6, .string (s.extract 0 n), .int .i64 0, .int .i64 0], .int .i64 (n : Int)]) (by simp [results, Tryz.results11, go_sem, c0, c1, c2, c3]) rfl ?_
  have hbb := below_setCell (below_setCell (below_setCell (below_setCell HB2.out (Nat.le_refl _) 0 (.int .u8 6)) (Nat.le_refl _) 1 (.string (s.extract 0 n))) (Nat.le_refl _) 2 (.int .i64 0)) (Nat.le_refl _) 3 (.int .i64 0)
  have hst2 := HST.out
  by_cases hn0 : n = 0
  · rw [if_pos hn0] at hst2
    have hn1 : (n : Int) = 0 := by omega
    rw [hn1]
    exact one_bad hst2 hbb
  · rw [if_neg hn0] at hst2
    exact one_tok hst2 HT.out hbb
/-- one, where no blank and no remark begins. -/
theorem one_any (s : ByteArray) (hs : s.size ≤ 1000000) (hs1 : 0 < s.size) (h10 : s[0] ≠ 10) (hb : ¬ (s[0] = 32 ∨ s[0] = 9 ∨ s[0] = 13)) (hp : Lib.hasPrefix s.data.toList [47, 47] = false) (w : World) : Calls Tryz.prog 11 #[.string s] w (OneEnd (step s.data.toList) w) := by
  have hl : s.data.toList.length = s.size := by simp
  obtain ⟨c, r, hL⟩ : ∃ c r, s.data.toList = c :: r := by
    rcases hd : s.data.toList with _ | ⟨c, r⟩
    · rw [hd] at hl; simp at hl; omega
    · exact ⟨c, r, rfl⟩
  have hc : s[0] = c := by rw [byte_at]; simp [hL]
  have hr : s.data.toList.drop 1 = r := by rw [hL]; rfl
  rw [hc] at h10 hb
  rw [hL] at hp
  rw [hL, step, if_neg h10, if_neg hb, if_neg (by rw [hp]; decide)]
  by_cases hh : headB c = true
  · rw [if_pos hh, ← hL]
    exact one_name s hs hs1 (by rw [hc]; exact hh) w
  · rw [if_neg hh]
    have hh' : headB s[0] = false := by rw [hc]; simpa using hh
    by_cases h36 : c = 36
    · rw [if_pos h36, ← hr]
      exact one_var s hs hs1 hh' (hc.trans h36) w
    · rw [if_neg h36]
      by_cases hd : digitB c = true
      · rw [if_pos hd, ← hL]
        exact one_number s hs hs1 hh' (by rw [hc]; exact h36) (by rw [hc]; exact hd) w
      · rw [if_neg hd]
        by_cases h39 : c = 39
        · rw [if_pos h39, ← hr]
          exact one_text s hs hs1 (hc.trans h39) w
        · rw [if_neg h39, ← hL]
          exact one_sign s hs hs1 hh' (by rw [hc]; exact h36) (by rw [hc]; simpa using hd) (by rw [hc]; exact h39) w
end Go.Proofs.YtneekcggbnodnaaGreatDoor
