/- later: tokens, so many lines on, in memory of its own. -/
import Derived.Test.YtneekcggbnodnaaDoorLexTwin
namespace Go.Proofs.YtneekcggbnodnaaDoor
open Go Go.RowKit Go.Lib
set_option linter.unusedSimpArgs false
set_option linter.unusedVariables false

/-- The first k tokens are turned. -/
def upTo (f : Tk → Tk) (k : Nat) (l : List Tk) : List Tk := (l.take k).map f ++ l.drop k
theorem upTo_len (f : Tk → Tk) (k : Nat) (l : List Tk) : (upTo f k l).length = l.length := by
  simp [upTo]
  omega
theorem upTo_zero (f : Tk → Tk) (l : List Tk) : upTo f 0 l = l := by simp [upTo]
theorem upTo_all (f : Tk → Tk) (l : List Tk) : upTo f l.length l = l.map f := by simp [upTo]
theorem upTo_at (f : Tk → Tk) (k : Nat) (l : List Tk) (h : k < l.length) : (upTo f k l)[k]'(by rw [upTo_len]; exact h) = l[k] := by
  simp only [upTo]
  rw [List.getElem_append_right (by simp; omega)]
  simp [Nat.min_eq_left (Nat.le_of_lt h)]
theorem upTo_step (f : Tk → Tk) (k : Nat) (l : List Tk) (h : k < l.length) : upTo f (k + 1) l = (upTo f k l).set k (f l[k]) := by
  apply List.ext_getElem
  · simp [upTo_len]
  · intro i h1 h2
    rw [List.getElem_set]
    by_cases e : k = i
    · subst e
      rw [if_pos rfl]
      simp only [upTo]
      rw [List.getElem_append_left (by simp; omega)]
      simp
    · rw [if_neg e]
      simp only [upTo]
      rw [upTo_len] at h1
      by_cases hi : i < k
      · rw [List.getElem_append_left (by simp; omega), List.getElem_append_left (by simp; omega)]
        simp
      · rw [List.getElem_append_right (by simp; omega), List.getElem_append_right (by simp; omega)]
        simp
        congr 1
        omega
/-- A token's line is written: the row reads as the tokens with that one turned. -/
theorem flat_set : ∀ (l : List Tk) (k : Nat) (n : Int) (h : k < l.length), (l.set k { l[k] with line := n }).flatMap Tk.cells = (l.flatMap Tk.cells).set (k * 4 + 3) (.int .i64 n) := by
  intro l
  induction l with
  | nil => intro k n h; simp at h
  | cons t r ih =>
    intro k n h
    rcases k with _ | k
    · simp [Tk.cells]
    · have := ih k n (by simpa using h)
      rw [List.set_cons_succ, List.flatMap_cons, List.flatMap_cons]
      simp only [List.getElem_cons_succ] at this ⊢
      rw [this, show (k + 1) * 4 + 3 = t.cells.length + (k * 4 + 3) by simp [Tk.cells]; omega, List.set_append_right _ _ (by omega)]
      congr 2
      omega
/-- A token's line is written. -/
theorem Toks.setLine {B g c : Nat} {w : World} {l : List Tk} {k : Nat} (h : Toks B w (.slice (some ⟨g, 0, none⟩) l.length c) l) (hk : k < l.length) (n : Int) :
    Toks B (w.setCell ⟨g, k * 4 + 3, none⟩ (.int .i64 n)) (.slice (some ⟨g, 0, none⟩) l.length c) (l.set k { l[k] with line := n }) := by
  have hs := World.ownsRow.stored h (k * 4 + 3) (.int .i64 n)
  unfold Toks
  rw [flat_set l k n hk, List.length_set]
  exact hs.1
theorem Toks.frozen {B g c : Nat} {w : World} {l : List Tk} (h : Toks B w (.slice (some ⟨g, 0, none⟩) l.length c) l) (j : Nat) : w.frozen? ⟨g, j, none⟩ = false := World.ownsRow.frozenAt h j
theorem Toks.atBlock {B g c n : Nat} {w : World} {l : List Tk} (h : Toks B w (.slice (some ⟨g, 0, none⟩) n c) l) : n = l.length ∧ B ≤ g ∧ g < w.heap.size := by
  have h1 := World.ownsRow.lt h g rfl
  obtain ⟨a, c', hv⟩ := h.form
  injection hv with _ e _
  exact ⟨e, h1.1, h1.2⟩
set_option maxHeartbeats 4000000 in
set_option maxRecDepth 100000 in
theorem later_any (B : Nat) (v : Value) (l : List Tk) (d : Int) (w : World) (h : Toks B w v l) (hl : l.length ≤ 1000000) (hd0 : 0 ≤ d) (hd1 : d ≤ 1000000) (hln : ∀ i (hi : i < l.length), 0 ≤ l[i].line ∧ l[i].line ≤ 1000000) :
    Calls Tryd.prog 19 #[v, .int .i64 d] w fun e w' => Below w.heap.size w w' ∧ ∃ g, e = .returned (.slice (some ⟨g, 0, none⟩) l.length (l.length + 2)) ∧ Toks w.heap.size w' (.slice (some ⟨g, 0, none⟩) l.length (l.length + 2)) (l.map (Tk.up d)) := by
  have TW := Lib.hid (twin_any B v l w h hl)
  have HLN := Lib.hid hln
  clear h hln
  go_enter Tryd.func19, Tryd.ntmps19
  go_wp2_with fail
  refine TW.out.mono ?_
  rintro e w1 ⟨hb1, g, rfl, ht⟩
  have hrel0 : Hid (Below w.heap.size w w1 ∧ Toks w.heap.size w1 (.slice (some ⟨g, 0, none⟩) l.length (l.length + 2)) (upTo (Tk.up d) 0 l)) := Lib.hid ⟨hb1, by rw [upTo_zero]; exact ht⟩
  clear hb1 ht TW
  go_wp2_with fail
  go_loopw [6] (fun i wr => ∃ k : Nat, i = .int .i64 k ∧ k ≤ l.length ∧ Hid (Below w.heap.size w wr ∧ Toks w.heap.size wr (.slice (some ⟨g, 0, none⟩) l.length (l.length + 2)) (upTo (Tk.up d) k l))) (fun i _ => l.length - (intOf i).toNat)
  case atStart => exact ⟨0, rfl, Nat.zero_le _, hrel0⟩
  case round =>
    obtain ⟨k, rfl, hk, hr⟩ := hrel
    obtain ⟨hb, ht⟩ := hr.out
    by_cases hlt : k < l.length
    · have hul := upTo_len (Tk.up d) k l
      have hkc : k < (upTo (Tk.up d) k l).length := by rw [hul]; exact hlt
      obtain ⟨g', c', hv, _, _, hc⟩ := ht.cells (by omega)
      injection hv with q1 _ _
      injection q1 with q1
      injection q1 with q1
      subst q1
      have b3 := (hc k hkc).c3
      rw [upTo_at (Tk.up d) k l hlt] at b3
      have ht2 := ht
      rw [← hul] at ht2
      have fz := ht2.frozen (k * 4 + 3)
      obtain ⟨l0, l1⟩ := HLN.out k hlt
      have hst := Toks.setLine ht2 hkc (l[k].line + d)
      rw [upTo_at (Tk.up d) k l hlt, hul] at hst
      have e1 := upTo_step (Tk.up d) k l hlt
      have hst2 : Toks w.heap.size (wr.setCell ⟨g, k * 4 + 3, none⟩ (.int .i64 (l[k].line + d))) (.slice (some ⟨g, 0, none⟩) l.length (l.length + 2)) (upTo (Tk.up d) (k + 1) l) := by
        rw [e1]; exact hst
      have hgb := ht.atBlock.2.1
      have hb2 := below_setCell hb hgb (k * 4 + 3) (.int .i64 (l[k].line + d))
      have HST := Lib.hid (⟨hb2, hst2⟩ : _ ∧ _)
      have m1 : (0 : Int) ≤ (k : Int) := by omega
      have m2 : (k : Int) < (l.length : Int) := by omega
      clear hb ht ht2 hr hc hst e1 hst2 hb2 hul hkc
      go_wp2_with fail
      go_roundw
      case rel => exact ⟨k + 1, by go_num, by omega, HST⟩
      case measure => simp [intOf]; omega
    · obtain rfl : k = l.length := by omega
      rw [upTo_all] at ht
      have HB := Lib.hid hb
      have HT := Lib.hid ht
      clear hb ht hr
      go_wp2_with fail
      go_ret
      exact ⟨HB.out, g, rfl, HT.out⟩
end Go.Proofs.YtneekcggbnodnaaDoor
