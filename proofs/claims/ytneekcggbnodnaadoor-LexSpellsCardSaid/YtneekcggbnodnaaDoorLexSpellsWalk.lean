/- The walk of LexSpells: it answers true. -/
import Derived.Test.YtneekcggbnodnaaDoorLexJoinsWalk
namespace Go.Proofs.YtneekcggbnodnaaDoor
open Go Go.RowKit Go.Lib
set_option linter.unusedSimpArgs false
set_option linter.unusedVariables false

theorem spelt_any (t : Tk) (hs : t.s.size ≤ 1000000) (w : World) : Calls Tryd.prog 20 #[.agg #[.int .u8 t.k, .string t.s, .int .i64 t.n, .int .i64 t.line]] w fun e w' => e = .returned (.string ⟨t.spelt.toArray⟩) ∧ Below w.heap.size w w' := by
  have e0 : t.spelt = if t.k = 3 then 36 :: t.s.data.toList else if t.k = 5 then quoteL t.s.data.toList else t.s.data.toList := rfl
  by_cases h3 : t.k = 3
  · have e1 : (⟨t.spelt.toArray⟩ : ByteArray) = (⟨#[36]⟩ : ByteArray) ++ t.s := by
      rw [e0, if_pos h3]
      apply ByteArray.ext
      simp
    have b3 : (t.k == 3) = true := by simpa using h3
    have E1 := Lib.hid e1
    clear h3 e0 e1
    go_enter Tryd.func20, Tryd.ntmps20
    go_wp2
    go_ret
    exact ⟨by rw [E1.out]; rfl, (Below.refl _ w).alloc (Nat.le_refl _) _⟩
  · have b3 : (t.k == 3) = false := by simpa using h3
    by_cases h5 : t.k = 5
    · have b5 : (t.k == 5) = true := by simpa using h5
      have Q := Lib.hid (quote_any t.s (by omega))
      have E1 : Hid (t.spelt = quoteL t.s.data.toList) := by unfold Hid; rw [e0, if_neg h3, if_pos h5]
      clear h3 h5 e0
      go_enter Tryd.func20, Tryd.ntmps20
      go_wp2_with (go_at_call 13; refine (Q.out _).mono ?_; rintro e w2 ⟨rfl, hb2⟩)
      go_ret
      refine ⟨by rw [E1.out]; rfl, ?_⟩
      exact ((Below.refl _ w).alloc (Nat.le_refl _) _).trans (hb2.mono (by simp))
    · have b5 : (t.k == 5) = false := by simpa using h5
      have e1 : (⟨t.spelt.toArray⟩ : ByteArray) = t.s := by
        rw [e0, if_neg h3, if_neg h5]
      have E1 := Lib.hid e1
      clear h3 h5 e0 e1
      go_enter Tryd.func20, Tryd.ntmps20
      go_wp2
      go_ret
      exact ⟨by rw [E1.out]; rfl, (Below.refl _ w).alloc (Nat.le_refl _) _⟩
def zeroLine (t : Tk) : Tk := t.at 0
/-- At each round's head. -/
def SpellRel (w1 : World) (g : Nat) (l : List Tk) (k : Nat) (u : ByteArray) (wr : World) : Prop :=
  u.data.toList = speltAll (l.take k) ∧ Below w1.heap.size w1 wr ∧ Toks w1.heap.size wr (.slice (some ⟨g, 0, none⟩) l.length (l.length + 2)) (upTo zeroLine k l)
theorem spelt_take (l : List Tk) (k : Nat) (h : k < l.length) : speltAll (l.take (k + 1)) = speltAll (l.take k) ++ l[k].spelt ++ [32] := by
  unfold speltAll
  rw [List.take_succ_eq_append_getElem h, List.flatMap_append]
  simp
theorem spelt_room (l : List Tk) (k : Nat) (h : k < l.length) : (speltAll (l.take k)).length + l[k].spelt.length + 1 ≤ (speltAll l).length := by
  have e : speltAll l = speltAll (l.take (k + 1)) ++ speltAll (l.drop (k + 1)) := by
    unfold speltAll
    rw [← List.flatMap_append, List.take_append_drop]
  rw [e, spelt_take l k h]
  simp only [List.length_append, List.length_cons, List.length_nil]
  omega
set_option maxHeartbeats 8000000 in
set_option maxRecDepth 100000 in
theorem spells_good (s : ByteArray) (hs : s.size ≤ 8192) (l : List Tk) (hl : lexL s.data.toList = .inr l) (w : World) (hg : Glob w) : Calls Tryd.prog 6 #[.string s] w fun e w' => e = .returned (.bool true) ∧ Below w.heap.size w w' := by
  have hlo := lines_ok hl (by rw [size_of]; omega)
  have hsm := tok_small s.data.toList.length s.data.toList 0 (Nat.le_refl _) l hl
  have hsl := lexF_speltLen s.data.toList.length s.data.toList 0 l (Nat.le_refl _) hl
  have hgd := lexF_facts s.data.toList.length s.data.toList 0 (Nat.le_refl _)
  rw [show lexF s.data.toList.length s.data.toList 0 = .inr l from hl] at hgd
  have hlen := hlo.len
  rw [size_of] at hlen hsl hsm
  have hlx : lexL (speltAll l) = .inr (l.map zeroLine) := lexF_spelt l (fun t ht => (hgd.2.2 t ht).2.2) _ 0 (Nat.le_refl _)
  have hl2 : l.length ≤ 8192 := by omega
  have HSM : Hid (∀ i (h : i < l.length), l[i].s.size ≤ 65536) := fun i h => by have := hsm l[i] (List.getElem_mem h); omega
  have T1 := Lib.hid (tok_inr s (by omega) l hl)
  have HSL := Lib.hid hsl
  have HLX := Lib.hid hlx
  have HG := Lib.hid hg
  have p1 : ¬ ((s.size : Int) > 8192) := by omega
  have p2 : decide ((s.size : Int) > 8192) = false := decide_eq_false p1
  have HP := Lib.hid hs
  clear hlo hsm hsl hgd hlx hl hg hs p1
  go_enter Tryd.func6, Tryd.ntmps6
  go_wp2_with fail
  refine (T1.out _ HG.out).mono ?_
  rintro e w1 ⟨a1, c1, rfl, hb1, ht1⟩
  have HG1 := Lib.hid (HG.out.below hb1)
  have HB1 := Lib.hid hb1
  have HT1 := Lib.hid ht1
  have TW := Lib.hid (twin_any _ _ l w1 ht1 (by have := HP.out; omega))
  clear hb1 ht1 T1
  go_wp2_with fail
  refine TW.out.mono ?_
  rintro e w2 ⟨hb2, g, rfl, ht2⟩
  have hrel0 : Hid (SpellRel w1 g l 0 ⟨#[]⟩ w2) := ⟨by simp [speltAll], hb2, by rw [upTo_zero]; exact ht2⟩
  clear hb2 ht2 TW
  go_wp2_with fail
  go_loopw [6, 8] (fun u i wr => ∃ (k : Nat) (x : ByteArray), u = .string x ∧ i = .int .i64 k ∧ k ≤ l.length ∧ Hid (SpellRel w1 g l k x wr)) (fun _ i _ => l.length - (intOf i).toNat)
  case atStart => exact ⟨0, _, rfl, rfl, Nat.zero_le _, hrel0⟩
  case round =>
    obtain ⟨k, x, rfl, rfl, hk, hr⟩ := hrel
    obtain ⟨hx, hb, ht⟩ := hr.out
    have hto := HT1.out.below hb
    by_cases hlt : k < l.length
    · obtain ⟨g1, c1', hv, _, _, hc⟩ := hto.cells (by omega)
      injection hv with q1 q2 q3
      subst q1
      subst q3
      obtain ⟨b0, b1, b2, b3⟩ := hc k hlt
      have hroom : x.size + l[k].spelt.length + 1 ≤ 65536 := by
        have h1 := spelt_room l k hlt
        rw [← hx, size_of] at h1
        have := HSL.out
        have := HP.out
        omega
      have SP := Lib.hid (spelt_any l[k] (by have := HSM.out k hlt; omega))
      have hul := upTo_len zeroLine k l
      have hkc : k < (upTo zeroLine k l).length := by rw [hul]; exact hlt
      have m1 : (0 : Int) ≤ (k : Int) := by omega
      have m2 : (k : Int) < (l.length : Int) := by omega
      have HX := Lib.hid hx
      have HB := Lib.hid hb
      have HT := Lib.hid ht
      have HUL := Lib.hid hul
      have HKC := Lib.hid hkc
      have HLT : Hid (k + 1 ≤ l.length) := hlt
      clear hx hb ht hto hc hul hkc hr
      go_wp2_with fail
      refine (SP.out _).mono ?_
      rintro e w3 ⟨rfl, hb3⟩
      have ht3 := HT.out.below hb3
      have hgb := ht3.atBlock.2.1
      have ht4 := ht3
      rw [← HUL.out] at ht4
      have fz := ht4.frozen (k * 4 + 3)
      obtain ⟨g', c', hv', _, _, hc'⟩ := ht3.cells (by have := HKC.out; omega)
      injection hv' with q1 q2 q3
      clear q2 q3
      injection q1 with q1
      injection q1 with q1
      subst q1
      have d3 := (hc' k HKC.out).c3
      have hst := Toks.setLine ht4 HKC.out 0
      rw [upTo_at zeroLine k l hlt, HUL.out] at hst
      have hst2 : Toks w1.heap.size (w3.setCell ⟨g, k * 4 + 3, none⟩ (.int .i64 0)) (.slice (some ⟨g, 0, none⟩) l.length (l.length + 2)) (upTo zeroLine (k + 1) l) := by
        rw [upTo_step zeroLine k l hlt]; exact hst
      have hb4 := below_setCell (HB.out.trans (hb3.mono HB.out.size)) hgb (k * 4 + 3) (.int .i64 0)
      have HST : Hid (SpellRel w1 g l (k + 1) (x ++ ⟨l[k].spelt.toArray⟩ ++ ⟨#[32]⟩) (w3.setCell ⟨g, k * 4 + 3, none⟩ (.int .i64 0))) :=
        ⟨by rw [spelt_take l k hlt, ← HX.out]; simp; rfl, hb4, hst2⟩
      clear ht3 ht4 hc' hst hst2 hb4 hb3 b0 b1 b2 b3
      go_wp2_with fail
      go_roundw
      case rel => exact ⟨k + 1, _, rfl, by go_num, HLT.out, HST⟩
      case measure => have := HLT.out; simp [intOf]; omega
    · obtain rfl : k = l.length := by omega
      rw [upTo_all] at ht
      rw [List.take_of_length_le (Nat.le_refl _)] at hx
      have hlx2 : lexL x.data.toList = .inr (l.map zeroLine) := by rw [hx]; exact HLX.out
      have hxs : x.size ≤ 65536 := by
        have := congrArg List.length hx
        rw [size_of] at this
        have := HSL.out
        have := HP.out
        omega
      have HGR := Lib.hid (HG1.out.below hb)
      have T2 := Lib.hid (tok_inr x hxs _ hlx2 wr HGR.out)
      have HB := Lib.hid hb
      have HT := Lib.hid ht
      have hml : (l.map zeroLine).length = l.length := by simp
      have HML := Lib.hid hml
      rw [hml] at T2
      clear hx hb ht hto hr hlx2 hxs hml
      go_wp2_with fail
      refine T2.out.mono ?_
      rintro e w4 ⟨a4, c4, rfl, hb4, ht4⟩
      have HG4 := Lib.hid (HGR.out.below hb4)
      have HB4 := Lib.hid (Below.step HB1.out (HB.out.trans (hb4.mono HB.out.size)))
      have HT4 := Lib.hid (HT.out.below hb4)
      have SM := Lib.hid (same_any _ _ _ _ _ w4 ht4 HT4.out (by rw [HML.out]; have := HP.out; omega))
      clear hb4 ht4 T2
      go_wp2_with fail
      refine SM.out.mono ?_
      rintro e w5 ⟨rfl, n5, rfl⟩
      have HG5 := Lib.hid (HG4.out.below (below_drewN (Below.refl _ _) n5))
      have HB5 := Lib.hid (below_drewN HB4.out n5)
      clear SM
      go_wp2_with fail
      refine (alive_any _ HG5.out).mono ?_
      rintro e w6 ⟨rfl, hb6⟩
      go_wp2_with fail
      go_ret
      exact ⟨rfl, Below.step HB5.out hb6⟩
/-- Where nothing is spelt: the text is none, or too long. -/
theorem spells_no (s : ByteArray) (y : Int) (h : y ≠ 0 ∨ 8192 < s.size) (w : World) (hg : Glob w) (ht : Calls Tryd.prog 15 #[.string s] w fun e w' => (∃ (a : Option Addr) (n c : Nat) (x : Int), e = .returned (.tuple #[.slice a n c, .int .i64 x, .int .i64 y])) ∧ Below w.heap.size w w') : Calls Tryd.prog 6 #[.string s] w fun e w' => e = .returned (.bool true) ∧ Below w.heap.size w w' := by
  have HT := Lib.hid ht
  have HG := Lib.hid hg
  by_cases hy : y = 0
  · subst hy
    have p1 : decide ((s.size : Int) > 8192) = true := decide_eq_true (by rcases h with h | h; exact absurd rfl h; omega)
    clear ht hg h
    go_enter Tryd.func6, Tryd.ntmps6
    go_wp2_with fail
    refine HT.out.mono ?_
    rintro e w1 ⟨⟨a, n, c, x, rfl⟩, hb1⟩
    have HG1 := Lib.hid (HG.out.below hb1)
    go_wp2_with (go_at_call 12; refine (alive_any _ HG1.out).mono ?_; rintro e w5 ⟨rfl, hb5⟩)
    go_ret
    exact ⟨rfl, Below.step hb1 hb5⟩
  · have e1 : (y != 0) = true := by simpa using hy
    clear ht hg h hy
    go_enter Tryd.func6, Tryd.ntmps6
    go_wp2_with fail
    refine HT.out.mono ?_
    rintro e w1 ⟨⟨a, n, c, x, rfl⟩, hb1⟩
    have HG1 := Lib.hid (HG.out.below hb1)
    go_wp2_with (go_at_call 12; refine (alive_any _ HG1.out).mono ?_; rintro e w5 ⟨rfl, hb5⟩)
    go_ret
    exact ⟨rfl, Below.step hb1 hb5⟩
/-- The walk of LexSpells. -/
theorem lexSpells_walk (s : ByteArray) (hs : s.size ≤ 140737488355328) (w : World) (hg : Glob w) : Calls Tryd.prog 6 #[.string s] w fun e w' => e = .returned (.bool true) ∧ Below w.heap.size w w' := by
  by_cases h : 65536 < s.size
  · refine spells_no s 3 (.inl (by decide)) w hg ((tokens_any s hs w hg).mono ?_)
    rintro e w' ⟨hb, h1⟩
    rw [if_pos h] at h1
    exact ⟨⟨_, _, _, _, h1⟩, hb⟩
  · rcases hl : lexL s.data.toList with er | l
    · refine spells_no s 6 (.inl (by decide)) w hg ((tok_inl s (by omega) er hl w hg).mono ?_)
      rintro e w' ⟨h1, hb⟩
      exact ⟨⟨_, _, _, _, h1⟩, hb⟩
    · by_cases h8 : s.size ≤ 8192
      · exact spells_good s h8 l hl w hg
      · refine spells_no s 0 (.inr (by omega)) w hg ((tok_inr s (by omega) l hl w hg).mono ?_)
        rintro e w' ⟨a, c, h1, hb, _⟩
        exact ⟨⟨_, _, _, _, h1⟩, hb⟩
end Go.Proofs.YtneekcggbnodnaaDoor
