/- The scanner: its state in memory; put: a token is put behind those that it has. -/
import Derived.Test.YtneekcggbnodnaaGreatDoorLexWords
import Derived.Deep.AppendLies
import Derived.Deep.RegionLaw
import Derived.Lib.SmallJoins
import Derived.OneCell
namespace Go.Proofs.YtneekcggbnodnaaGreatDoor
open Go Go.RowKit Go.Lib
set_option linter.unusedSimpArgs false
set_option linter.unusedVariables false

/-- A token. -/
structure Tk where
  k : Int
  s : ByteArray
  n : Int
  line : Int
def Tk.cells (t : Tk) : List Value := [.int .u8 t.k, .string t.s, .int .i64 t.n, .int .i64 t.line]
def Tk.at (t : Tk) (line : Int) : Tk := { t with line := line }
theorem tk_len (l : List Tk) : (l.flatMap Tk.cells).length = l.length * 4 := by
  induction l with
  | nil => rfl
  | cons t l ih => rw [List.flatMap_cons, List.length_append, ih, List.length_cons]; simp [Tk.cells]; omega
theorem infoTok : (Tryz.prog.info? 71).map (fun i => (i.zero, i.size, i.bytes)) = some (some (.agg #[.int .u8 0, .string ⟨#[]⟩, .int .i64 0, .int .i64 0]), 4, 40) := by kernel_rfl

/-- Block p is a scanner of the call's own (from B on). -/
structure Sc (B p : Nat) (s : ByteArray) (line : Int) (v : Value) (l : List Tk) (bad : Bool) (w : World) : Prop where
  base : B ≤ p
  lies : w.heap[p]? = some (.cells #[.string s, .int .i64 line, v, .bool bad] 68 (0, 0))
  own : w.ownsRow B 71 4 v l.length (l.flatMap Tk.cells)
  ne : v.ownBlock ≠ some p
theorem Sc.lt {B p : Nat} {s : ByteArray} {line : Int} {v : Value} {l : List Tk} {bad : Bool} {w : World} (h : Sc B p s line v l bad w) : p < w.heap.size := by
  rcases Nat.lt_or_ge p w.heap.size with h' | h'
  · exact h'
  · have := h.lies; simp [Array.getElem?_eq_none h'] at this
theorem Sc.form {B p : Nat} {s : ByteArray} {line : Int} {v : Value} {l : List Tk} {bad : Bool} {w : World} (h : Sc B p s line v l bad w) : ∃ a c, v = .slice a l.length c := by
  rcases h.own.2 with ⟨hv, h0⟩ | ⟨g, cap, cur, hv, _⟩
  · exact ⟨none, 0, by rw [hv, h0]⟩
  · exact ⟨_, _, hv⟩

/-- Behind the append: what put reads and writes next; what is kept for the end. -/
def PutZ (B p : Nat) (s : ByteArray) (line : Int) (l : List Tk) (bad : Bool) (t : Tk) (v : Value) (V : Value) (W W2 w1 : World) : Prop :=
  w1.heap[p]? = some (.cells #[.string s, .int .i64 line, v, .bool bad] 68 (0, 0)) ∧ w1.ownsRow B 71 4 V (l ++ [t.at line]).length ((l ++ [t.at line]).flatMap Tk.cells) ∧ V.ownBlock ≠ some p ∧ W2.grownBy w1 v.ownBlock
theorem put_facts {B p : Nat} {s : ByteArray} {line : Int} {v : Value} {l : List Tk} {bad : Bool} {t : Tk} {W w1 : World} {o : Obj} {g cap : Nat}
    (hp : W.heap[p]? = some (.cells #[.string s, .int .i64 line, v, .bool bad] 68 (0, 0))) (hne : v.ownBlock ≠ some p)
    (ho : w1.ownsRow B 71 4 (.slice (some ⟨g, 0, none⟩) (l.length + 1) cap) (l.length + 1) (l.flatMap Tk.cells ++ Tk.cells (t.at line))) (hg : ((W.alloc o).drew).grownBy w1 v.ownBlock) (hat : v.ownBlock = some g ∨ g = W.heap.size + 1) :
    w1.cell? ⟨p, 0, none⟩ = some (.string s) ∧ w1.cell? ⟨p, 2, none⟩ = some v ∧ w1.frozen? ⟨p, 0, none⟩ = false ∧ w1.frozen? ⟨p, 2, none⟩ = false ∧
      Hid (PutZ B p s line l bad t v (.slice (some ⟨g, 0, none⟩) (l.length + 1) cap) W ((W.alloc o).drew) w1) := by
  have hlt : p < W.heap.size := by
    rcases Nat.lt_or_ge p W.heap.size with h' | h'
    · exact h'
    · simp [Array.getElem?_eq_none h'] at hp
  have h1 : w1.heap[p]? = some (.cells #[.string s, .int .i64 line, v, .bool bad] 68 (0, 0)) := by
    rw [hg.block p (by simp; omega) (fun e => hne e.symm)]
    exact (Lib.alloc_old W o p hlt).trans hp
  refine ⟨by rw [Lib.cell_of_heap h1]; rfl, by rw [Lib.cell_of_heap h1]; rfl, Lib.frozen_of_heap h1 0, Lib.frozen_of_heap h1 2, h1, ?_, ?_, hg⟩
  · rw [List.flatMap_append, List.length_append]
    simpa using ho
  · simp only [Value.ownBlock, ne_eq, Option.some.injEq]
    rintro rfl
    rcases hat with e | e
    · exact hne e
    · omega
theorem put_end {B p : Nat} {s : ByteArray} {line : Int} {l : List Tk} {bad : Bool} {t : Tk} {v V : Value} {w W w1 : World} {o : Obj} (z : PutZ B p s line l bad t v V W ((W.alloc o).drew) w1) (hB : B ≤ p)
    (hbw : Below B w W) (hown : W.ownsRow B 71 4 v l.length (l.flatMap Tk.cells)) (hBW : B ≤ W.heap.size) (S : ByteArray) :
    Sc B p S line V (l ++ [t.at line]) bad ((w1.setCell ⟨p, 2, none⟩ V).setCell ⟨p, 0, none⟩ (.string S)) ∧ Below B w ((w1.setCell ⟨p, 2, none⟩ V).setCell ⟨p, 0, none⟩ (.string S)) := by
  obtain ⟨h1, h2, h3, h4⟩ := z
  refine ⟨⟨hB, ?_, ownsRow_setCell_other (ownsRow_setCell_other h2 h3 _) h3 _, h3⟩, ?_⟩
  · rw [Joins.block_setCell (Joins.block_setCell h1 V)]
    rfl
  · refine Below.setCell (Below.setCell ?_ (p := ⟨p, 2, none⟩) hB _) (p := ⟨p, 0, none⟩) hB _
    exact ((hbw.alloc hBW o).drew).grown h4 (by simp; omega) (fun k hk => (hown.lt k hk).1)
set_option maxHeartbeats 4000000 in
set_option maxRecDepth 100000 in
theorem put_any (B p : Nat) (s : ByteArray) (line : Int) (v : Value) (l : List Tk) (bad : Bool) (t : Tk) (n : Int) (w : World) (h : Sc B p s line v l bad w) (hn0 : 0 ≤ n) (hn : n ≤ s.size) (hs : s.size ≤ 140737488355328) (hlen : l.length ≤ 1000000) (hBw : B ≤ w.heap.size) :
    Calls Tryz.prog 121 #[.pointer (some ⟨p, 0, none⟩), .agg #[.int .u8 t.k, .string t.s, .int .i64 t.n, .int .i64 t.line], .int .i64 n] w fun e w' => e = .returned (.tuple #[]) ∧ ∃ v', Sc B p (s.extract n.toNat s.size) line v' (l ++ [t.at line]) bad w' ∧ Below B w w' := by
  obtain ⟨i0, hi, hz0, hz1, hz2⟩ := info_parts infoTok
  have hp := h.lt
  have hne := h.ne
  obtain ⟨a, c, rfl⟩ := h.form
  have c0 : w.cell? ⟨p, 0, none⟩ = some (.string s) := by rw [Lib.cell_of_heap h.lies]; rfl
  have c1 : w.cell? ⟨p, 1, none⟩ = some (.int .i64 line) := by rw [Lib.cell_of_heap h.lies]; rfl
  have c2 : w.cell? ⟨p, 2, none⟩ = some (.slice a l.length c) := by rw [Lib.cell_of_heap h.lies]; rfl
  have f0 : w.frozen? ⟨p, 0, none⟩ = false := Lib.frozen_of_heap h.lies 0
  have f2 : w.frozen? ⟨p, 2, none⟩ = false := Lib.frozen_of_heap h.lies 2
  have H := Lib.hid h
  clear h
  go_enter Tryz.func121, Tryz.ntmps121
  go_wp2
  obtain ⟨W, hW⟩ : ∃ W, W = w.alloc (.cells #[.int .u8 t.k, .string t.s, .int .i64 t.n, .int .i64 line] 71) := ⟨_, rfl⟩
  rw [← hW]
  have hsz : W.heap.size = w.heap.size + 1 := by rw [hW]; simp
  have hold : ∀ k, k < w.heap.size → W.heap[k]? = w.heap[k]? := fun k hk => by rw [hW]; exact Lib.alloc_old w _ k hk
  have hlast : W.heap[w.heap.size]? = some (.cells #[.int .u8 t.k, .string t.s, .int .i64 t.n, .int .i64 line] 71 (0, 0)) := by rw [hW]; exact heap_alloc_new w _
  have hPW : W.heap[p]? = some (.cells #[.string s, .int .i64 line, .slice a l.length c, .bool bad] 68 (0, 0)) := (hold p hp).trans H.out.lies
  have hOW : W.ownsRow B 71 4 (.slice a l.length c) l.length (l.flatMap Tk.cells) := by rw [hW]; exact H.out.own.alloc _
  have hBW : Below B w W := by rw [hW]; exact (Below.refl B w).alloc hBw _
  clear hW c0 c1 c2 f0 f2
  have c2 : W.cell? ⟨p, 2, none⟩ = some (.slice a l.length c) := by rw [Lib.cell_of_heap hPW]; rfl
  have e0 : W.cell? ⟨w.heap.size, 0, none⟩ = some (.int .u8 t.k) := by rw [Lib.cell_of_heap hlast]; rfl
  have e1 : W.cell? ⟨w.heap.size, 1, none⟩ = some (.string t.s) := by rw [Lib.cell_of_heap hlast]; rfl
  have e2 : W.cell? ⟨w.heap.size, 2, none⟩ = some (.int .i64 t.n) := by rw [Lib.cell_of_heap hlast]; rfl
  have e3 : W.cell? ⟨w.heap.size, 3, none⟩ = some (.int .i64 line) := by rw [Lib.cell_of_heap hlast]; rfl
  have HP := Lib.hid hPW
  have HO := Lib.hid hOW
  have HB := Lib.hid hBW
  have HS := Lib.hid hsz
  have HH := Lib.hid hold
  clear hPW hOW hBW hsz hold hlast
  have O2 : Hid (((W.alloc (.cells #[.int .u8 t.k, .string t.s, .int .i64 t.n, .int .i64 line] 71)).drew).ownsRow B 71 4 (.slice a l.length c) l.length (l.flatMap Tk.cells)) := HO.out.alloc _
  have N2 : Hid (∀ (j : Nat) (u : Value), (Tk.cells (t.at line))[j]? = some u → ((W.alloc (.cells #[.int .u8 t.k, .string t.s, .int .i64 t.n, .int .i64 line] 71)).drew).cell? ((⟨W.heap.size, 0, none⟩ : Addr).add j) = some u) := by
    intro j u hj
    have hl : (W.alloc (.cells #[.int .u8 t.k, .string t.s, .int .i64 t.n, .int .i64 line] 71)).heap[W.heap.size]? = some (.cells #[.int .u8 t.k, .string t.s, .int .i64 t.n, .int .i64 line] 71 (0, 0)) := heap_alloc_new W _
    have := Lib.cell_of_heap hl j
    rw [Addr.add_lit]
    simp only [Nat.zero_add]
    refine Eq.trans this ?_
    rw [← hj]
    simp [Tk.cells, Tk.at]
  have N3 : Hid (∀ u ∈ Tk.cells (t.at line), u.oneCell' = true) := by
    intro u hu
    simp only [Tk.cells, List.mem_cons, List.mem_nil_iff, or_false, List.not_mem_nil] at hu
    rcases hu with rfl | rfl | rfl | rfl <;> rfl
  have L1 : Hid (l.length + 1 ≤ maxLen) := by unfold Hid maxLen; omega
  have L2 : Hid ((l.length + 1) * 40 ≤ 140737488355328) := by unfold Hid; omega
  have L3 : Hid (B ≤ ((W.alloc (.cells #[.int .u8 t.k, .string t.s, .int .i64 t.n, .int .i64 line] 71)).drew).heap.size) := by unfold Hid; simp; have := HS.out; omega
  have L4 : Hid (((W.alloc (.cells #[.int .u8 t.k, .string t.s, .int .i64 t.n, .int .i64 line] 71)).drew).heap.size = W.heap.size + 1) := by unfold Hid; simp
  have q1 : p < W.heap.size := by have := HS.out; omega
  have q2 : w.heap.size < W.heap.size := by have := HS.out; omega
  have HN := Lib.hid hne
  clear hne
  go_region_law (refine step_append_lies _ rfl (.tmp 15) (.tmp 17) 22 rfl B 71 i0 _ 4 40 Tryz.underlying22 hi hz0 hz1 hz2 rfl (by decide) (.slice a l.length c) l.length (l.flatMap Tk.cells) (by simp [Act.eval, Act.put]) O2.out ⟨W.heap.size, 0, none⟩ 1 1 (Tk.cells (t.at line)) (by simp [Act.eval, Act.put]) rfl N2.out N3.out (by decide) L1.out L2.out L3.out (W.heap.size + 1) L4.out ?_; intro g cap w1 ho hg hat hlt; obtain ⟨d0, d2, k0, k2, Z⟩ := put_facts HP.out HN.out ho hg hat; clear ho hg hat hlt)
  all_goals
    go_wp2
    go_end0
    exact ⟨rfl, _, put_end Z.out H.out.base HB.out HO.out (by have := HS.out; omega) _⟩
end Go.Proofs.YtneekcggbnodnaaGreatDoor
