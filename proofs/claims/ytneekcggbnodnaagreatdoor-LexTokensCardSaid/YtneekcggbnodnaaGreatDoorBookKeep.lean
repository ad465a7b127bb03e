/- A Book in memory; keepToken, Tokens: a list is put behind those that it holds. -/
import Derived.Test.YtneekcggbnodnaaGreatDoorBookNils
namespace Go.Proofs.YtneekcggbnodnaaGreatDoor
open Go Go.RowKit Go.Lib
set_option linter.unusedSimpArgs false
set_option linter.unusedVariables false

def nilV : Value := .slice none 0 0
/-- A Book's cells: so many lists are kept; vh: those of tokens. -/
def bookCells (n : Int) (vh : Value) : Array Value := #[.int .i64 n, nilV, nilV, nilV, nilV, nilV, vh, nilV, nilV, nilV, nilV, nilV, nilV, nilV, nilV, nilV, nilV, nilV, nilV, nilV, nilV, nilV, nilV, nilV, nilV, nilV, nilV, nilV, nilV, nilV, nilV, nilV, nilV, nilV, nilV]
theorem infoBook : (Tryz.prog.info? 62).map (fun i => (i.zero, i.size)) = some (some (.agg (bookCells 0 nilV)), 35) := by kernel_rfl
theorem infoHeld : (Tryz.prog.info? 90).map (fun i => (i.zero, i.size, i.bytes)) = some (some (.agg #[.slice none 0 0, .int .i64 0]), 2, 32) := by kernel_rfl
/-- Block b is a Book of the call's own; xs: the cells of the lists of tokens that it holds. -/
structure Bk (B b : Nat) (n : Int) (vh : Value) (k : Nat) (xs : List Value) (w : World) : Prop where
  base : B ≤ b
  lies : w.heap[b]? = some (.cells (bookCells n vh) 62 (0, 0))
  own : w.ownsRow B 90 2 vh k xs
  ne : vh.ownBlock ≠ some b
theorem Bk.lt {B b : Nat} {n : Int} {vh : Value} {k : Nat} {xs : List Value} {w : World} (h : Bk B b n vh k xs w) : b < w.heap.size := by
  rcases Nat.lt_or_ge b w.heap.size with h' | h'
  · exact h'
  · have := h.lies; simp [Array.getElem?_eq_none h'] at this
theorem row_form {B k size : Nat} {e : TypeId} {v : Value} {xs : List Value} {w : World} (h : w.ownsRow B e size v k xs) : ∃ a c, v = .slice a k c := by
  rcases h.2 with ⟨hv, h0⟩ | ⟨g, cap, cur, hv, _⟩
  · exact ⟨none, 0, by rw [hv, h0]⟩
  · exact ⟨_, _, hv⟩
theorem Bk.nils {B b : Nat} {n : Int} {vh : Value} {k : Nat} {xs : List Value} {w : World} (h : Bk B b n vh k xs w) (j : Nat) (h1 : 1 ≤ j) (h2 : j < 35) (h3 : j ≠ 6) : w.cell? ⟨b, j, none⟩ = some (.slice none 0 0) := by
  rw [Lib.cell_of_heap h.lies]
  have : ∀ j, j < 35 → 1 ≤ j → j ≠ 6 → (bookCells n vh)[j]? = some (.slice none 0 0) := by
    intro j hj
    match j, hj with
    | 0, _ => intro h; omega
    | 6, _ => intro _ h; omega
    | 1, _ | 2, _ | 3, _ | 4, _ | 5, _ | 7, _ | 8, _ | 9, _ | 10, _ | 11, _ | 12, _ | 13, _ | 14, _ | 15, _ | 16, _ | 17, _ | 18, _ | 19, _ | 20, _ | 21, _ | 22, _ | 23, _ | 24, _ | 25, _ | 26, _ | 27, _ | 28, _ | 29, _ | 30, _ | 31, _ | 32, _ | 33, _ | 34, _ => intros; rfl
    | j + 35, hj => omega
  exact this j h2 h1 h3
/-- Behind the append. -/
def KeepZ (B b : Nat) (n : Int) (vh : Value) (k : Nat) (xs new : List Value) (g cap : Nat) (w W1 w1 : World) : Prop :=
  w1.heap[b]? = some (.cells (bookCells n vh) 62 (0, 0)) ∧ w1.ownsRow B 90 2 (.slice (some ⟨g, 0, none⟩) (k + 1) cap) (k + 1) (xs ++ new) ∧ g ≠ b ∧ W1.grownBy w1 vh.ownBlock ∧ (vh.ownBlock = some g ∨ w.heap.size ≤ g)
theorem keep_facts {B b k g cap : Nat} {n : Int} {vh : Value} {xs new : List Value} {w w1 : World} {o : Obj} (h : Bk B b n vh k xs w) (ho : w1.ownsRow B 90 2 (.slice (some ⟨g, 0, none⟩) (k + 1) cap) (k + 1) (xs ++ new)) (hg : ((w.alloc o).drew).grownBy w1 vh.ownBlock) (hat : vh.ownBlock = some g ∨ g = w.heap.size + 1) :
    w1.cell? ⟨b, 0, none⟩ = some (.int .i64 n) ∧ w1.cell? ⟨b, 6, none⟩ = some vh ∧ w1.frozen? ⟨b, 0, none⟩ = false ∧ w1.frozen? ⟨b, 6, none⟩ = false ∧ Hid (KeepZ B b n vh k xs new g cap w ((w.alloc o).drew) w1) := by
  have hlt := h.lt
  have h1 : w1.heap[b]? = some (.cells (bookCells n vh) 62 (0, 0)) := by
    rw [hg.block b (by simp; omega) (fun e => h.ne e.symm)]
    exact (Lib.alloc_old w o b hlt).trans h.lies
  refine ⟨by rw [Lib.cell_of_heap h1]; rfl, by rw [Lib.cell_of_heap h1]; rfl, Lib.frozen_of_heap h1 0, Lib.frozen_of_heap h1 6, h1, ho, ?_, hg, ?_⟩
  · rintro rfl
    rcases hat with e | e
    · exact h.ne e
    · omega
  · rcases hat with e | e
    · exact .inl e
    · exact .inr (by omega)
theorem keep_end {B b k g cap : Nat} {n : Int} {vh : Value} {xs new : List Value} {w w1 : World} {o : Obj} (h : Bk B b n vh k xs w) (hB : B ≤ w.heap.size) (z : KeepZ B b n vh k xs new g cap w ((w.alloc o).drew) w1) (V : World) (hV : V = (w1.setCell ⟨b, 6, none⟩ (.slice (some ⟨g, 0, none⟩) (k + 1) cap)).setCell ⟨b, 0, none⟩ (.int .i64 (n + 1))) :
    Below B w V ∧ ∃ g cap, Bk B b (n + 1) (.slice (some ⟨g, 0, none⟩) (k + 1) cap) (k + 1) (xs ++ new) V ∧ (vh.ownBlock = some g ∨ w.heap.size ≤ g) ∧ ∀ j, j < w.heap.size → j ≠ b → some j ≠ vh.ownBlock → V.heap[j]? = w.heap[j]? := by
  subst hV
  obtain ⟨h1, h2, h3, h4, h5⟩ := z
  have hne : (Value.slice (some ⟨g, 0, none⟩) (k + 1) cap).ownBlock ≠ some b := by
    simp only [Value.ownBlock, ne_eq, Option.some.injEq]
    exact h3
  refine ⟨?_, g, cap, ⟨h.base, ?_, ownsRow_setCell_other (ownsRow_setCell_other h2 hne _) hne _, hne⟩, h5, fun j hj hjb hjv => ?_⟩
  · refine Below.setCell (Below.setCell ?_ (p := ⟨b, 6, none⟩) h.base _) (p := ⟨b, 0, none⟩) h.base _
    exact (((Below.refl B w).alloc hB o).drew).grown h4 (by simp; omega) (fun k hk => (World.ownsRow.lt h.own k hk).1)
  · rw [Joins.block_setCell (Joins.block_setCell h1 _)]
    rfl
  · rw [Below.heap_setCell _ _ _ _ hjb, Below.heap_setCell _ _ _ _ hjb, h4.block j (by simp; omega) hjv]
    exact Lib.alloc_old w o j hj
set_option maxHeartbeats 4000000 in
set_option maxRecDepth 100000 in
theorem keep_any (B b : Nat) (n : Int) (vh : Value) (k : Nat) (xs : List Value) (w : World) (a0 : Option Addr) (m c0 : Nat) (h : Bk B b n vh k xs w) (hk : k ≤ 100) (hn0 : 0 ≤ n) (hn : n ≤ 100) (hB : B ≤ w.heap.size) :
    Calls Tryz.prog 12 #[.pointer (some ⟨b, 0, none⟩), .slice a0 m c0] w fun e w' => e = .returned (.tuple #[]) ∧ Below B w w' ∧ ∃ g cap, Bk B b (n + 1) (.slice (some ⟨g, 0, none⟩) (k + 1) cap) (k + 1) (xs ++ [.slice a0 m c0, .int .i64 n]) w' ∧ (vh.ownBlock = some g ∨ w.heap.size ≤ g) ∧ ∀ j, j < w.heap.size → j ≠ b → some j ≠ vh.ownBlock → w'.heap[j]? = w.heap[j]? := by
  obtain ⟨i0, hi, hz0, hz1, hz2⟩ := info_parts infoHeld
  have hb := h.lt
  have hne := h.ne
  obtain ⟨a, c, rfl⟩ := row_form h.own
  have d0 : w.cell? ⟨b, 0, none⟩ = some (.int .i64 n) := by rw [Lib.cell_of_heap h.lies]; rfl
  have d6 : w.cell? ⟨b, 6, none⟩ = some (.slice a k c) := by rw [Lib.cell_of_heap h.lies]; rfl
  have f0 : w.frozen? ⟨b, 0, none⟩ = false := Lib.frozen_of_heap h.lies 0
  have f6 : w.frozen? ⟨b, 6, none⟩ = false := Lib.frozen_of_heap h.lies 6
  have H := Lib.hid h
  clear h
  go_enter Tryz.func12, Tryz.ntmps12
  go_wp2_with fail
  have O2 : Hid (((w.alloc (.cells #[.slice a0 m c0, .int .i64 n] 90)).drew).ownsRow B 90 2 (.slice a k c) k xs) := H.out.own.alloc _
  have N2 : Hid (∀ (j : Nat) (u : Value), [Value.slice a0 m c0, .int .i64 n][j]? = some u → ((w.alloc (.cells #[.slice a0 m c0, .int .i64 n] 90)).drew).cell? ((⟨w.heap.size, 0, none⟩ : Addr).add j) = some u) := by
    intro j u hj
    have hl : (w.alloc (.cells #[.slice a0 m c0, .int .i64 n] 90)).heap[w.heap.size]? = some (.cells #[.slice a0 m c0, .int .i64 n] 90 (0, 0)) := heap_alloc_new w _
    have := Lib.cell_of_heap hl j
    rw [Addr.add_lit]
    simp only [Nat.zero_add]
    refine Eq.trans this ?_
    rw [← hj]
    simp
  have N3 : Hid (∀ u ∈ [Value.slice a0 m c0, .int .i64 n], u.oneCell' = true) := by
    intro u hu
    simp only [List.mem_cons, List.mem_nil_iff, or_false, List.not_mem_nil] at hu
    rcases hu with rfl | rfl <;> rfl
  have L1 : Hid (k + 1 ≤ maxLen) := by unfold Hid maxLen; omega
  have L2 : Hid ((k + 1) * 32 ≤ 140737488355328) := by unfold Hid; omega
  have L3 : Hid (B ≤ ((w.alloc (.cells #[.slice a0 m c0, .int .i64 n] 90)).drew).heap.size) := by unfold Hid; simp; omega
  have L4 : Hid (((w.alloc (.cells #[.slice a0 m c0, .int .i64 n] 90)).drew).heap.size = w.heap.size + 1) := by unfold Hid; simp
  have HN := Lib.hid hne
  clear hne
  go_region_law (refine step_append_lies _ rfl (.tmp 8) (.tmp 15) 32 rfl B 90 i0 _ 2 32 Tryz.underlying32 hi hz0 hz1 hz2 rfl (by decide) (.slice a k c) k xs (by simp [Act.eval, Act.put]) O2.out ⟨w.heap.size, 0, none⟩ 1 1 [Value.slice a0 m c0, .int .i64 n] (by simp [Act.eval, Act.put]) rfl N2.out N3.out (by decide) L1.out L2.out L3.out (w.heap.size + 1) L4.out ?_; intro g cap w1 ho hg hat hlt; obtain ⟨e0, e6, k0, k6, Z⟩ := keep_facts H.out ho hg hat; clear ho hg hat hlt)
  all_goals
    go_wp2_with fail
    go_end0
    exact ⟨rfl, keep_end H.out hB Z.out _ (by go_num)⟩
end Go.Proofs.YtneekcggbnodnaaGreatDoor
