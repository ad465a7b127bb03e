/- Lists of tokens in memory; the head of every statement of layer 2 (alive): it answers true. -/
import Derived.Test.YtneekcggbnodnaaGreatDoorLexTokens
import Derived.Test.YtneekcggbnodnaaGreatDoorLexQuote
import Derived.KernelRfl
namespace Go.Proofs.YtneekcggbnodnaaGreatDoor
open Go Go.RowKit Go.Lib
set_option linter.unusedSimpArgs false
set_option linter.unusedVariables false

/-- The value reads as the tokens l, in a row of the call's own, from block B on. -/
def Toks (B : Nat) (w : World) (v : Value) (l : List Tk) : Prop := w.ownsRow B 71 4 v l.length (l.flatMap Tk.cells)
theorem Toks.below {B : Nat} {w w' : World} {v : Value} {l : List Tk} (h : Toks B w v l) (hb : Below w.heap.size w w') : Toks B w' v l :=
  own_belowN h (fun k hk => (World.ownsRow.lt h k hk).2) hb
theorem Toks.nil (B : Nat) (w : World) : Toks B w (.slice none 0 0) [] := World.ownsRow_nil _ _ _ _
theorem tok_at : ∀ (l : List Tk) (i j : Nat) (hi : i < l.length) (hj : j < 4), (l.flatMap Tk.cells)[i * 4 + j]? = (l[i].cells)[j]? := by
  intro l
  induction l with
  | nil => intro i j hi; simp at hi
  | cons t r ih =>
    intro i j hi hj
    rw [List.flatMap_cons]
    have ht : t.cells.length = 4 := rfl
    rcases i with _ | i
    · rw [Nat.zero_mul, Nat.zero_add, List.getElem?_append_left (by rw [ht]; exact hj)]
      rfl
    · rw [List.getElem?_append_right (by rw [ht]; omega), ht, show (i + 1) * 4 + j - 4 = i * 4 + j by omega]
      have := ih i j (by simpa using hi) hj
      rw [this]
      rfl
structure TokCells (w : World) (g i : Nat) (t : Tk) : Prop where
  c0 : w.cell? ⟨g, i * 4, none⟩ = some (.int .u8 t.k)
  c1 : w.cell? ⟨g, i * 4 + 1, none⟩ = some (.string t.s)
  c2 : w.cell? ⟨g, i * 4 + 2, none⟩ = some (.int .i64 t.n)
  c3 : w.cell? ⟨g, i * 4 + 3, none⟩ = some (.int .i64 t.line)
theorem Toks.form {B : Nat} {w : World} {v : Value} {l : List Tk} (h : Toks B w v l) : ∃ a c, v = .slice a l.length c := by
  rcases h.2 with ⟨hv, h0⟩ | ⟨g, cap, cur, hv, _⟩
  · exact ⟨none, 0, by rw [hv, h0]⟩
  · exact ⟨_, _, hv⟩
theorem Toks.cells {B : Nat} {w : World} {v : Value} {l : List Tk} (h : Toks B w v l) (h0 : 0 < l.length) :
    ∃ g c, v = .slice (some ⟨g, 0, none⟩) l.length c ∧ B ≤ g ∧ g < w.heap.size ∧ ∀ i (hi : i < l.length), TokCells w g i l[i] := by
  have h' := h
  rcases h'.2 with ⟨hv, h1⟩ | ⟨g, cap, cur, hv, hg, _⟩
  · omega
  · subst hv
    refine ⟨g, cap, rfl, hg, (World.ownsRow.lt h g rfl).2, fun i hi => ?_⟩
    have k : ∀ j, j < 4 → w.cell? ⟨g, i * 4 + j, none⟩ = (l[i].cells)[j]? := fun j hj => by
      rw [World.ownsRow.cellAt h _ (by omega), tok_at l i j hi hj]
    exact ⟨k 0 (by omega), k 1 (by omega), k 2 (by omega), k 3 (by omega)⟩

def aliveS : ByteArray := ⟨#[36, 97, 61, 62, 39, 98, 92, 120, 48, 48, 39, 32, 47, 47, 32, 120, 10, 110, 117, 108, 108]⟩
def aliveT : List Tk := [⟨3, ⟨#[97]⟩, 0, 0⟩, ⟨6, ⟨#[61, 62]⟩, 0, 0⟩, ⟨5, ⟨#[98, 0]⟩, 0, 0⟩, ⟨2, ⟨#[110, 117, 108, 108]⟩, 0, 1⟩]
theorem alive_step1 : step [36, 97, 61, 62, 39, 98, 92, 120, 48, 48, 39, 32, 47, 47, 32, 120, 10, 110, 117, 108, 108] = .tok 3 [97] 0 2 := by kernel_rfl
theorem alive_step2 : step [61, 62, 39, 98, 92, 120, 48, 48, 39, 32, 47, 47, 32, 120, 10, 110, 117, 108, 108] = .tok 6 [61, 62] 0 2 := by kernel_rfl
theorem alive_step3 : step [39, 98, 92, 120, 48, 48, 39, 32, 47, 47, 32, 120, 10, 110, 117, 108, 108] = .tok 5 [98, 0] 0 7 := step_quote [98, 0] _
theorem alive_lex1 : lexL aliveS.data.toList = .inr aliveT := by
  show lexF 21 _ 0 = _
  rw [lexF, if_neg (by decide), show aliveS.data.toList = [36, 97, 61, 62, 39, 98, 92, 120, 48, 48, 39, 32, 47, 47, 32, 120, 10, 110, 117, 108, 108] from rfl, alive_step1]
  simp only [List.drop_succ_cons, List.drop_zero]
  rw [lexF, if_neg (by decide), alive_step2]
  simp only [List.drop_succ_cons, List.drop_zero]
  rw [lexF, if_neg (by decide), alive_step3]
  simp only [List.drop_succ_cons, List.drop_zero]
  kernel_rfl
theorem alive_lex2 : lexL [97, 10, 35] = .inl 1 := by kernel_rfl
theorem alive_q (w : World) : Calls Tryz.prog 113 #[.string ⟨#[39]⟩] w fun e w' => e = .returned (.string ⟨#[39, 92, 39, 39]⟩) ∧ Below w.heap.size w w' := by
  refine (quote_any ⟨#[39]⟩ (by decide) w).mono ?_
  rintro e w' ⟨rfl, hb⟩
  exact ⟨rfl, hb⟩
theorem alive_t1 (w : World) (hg : Glob w) : Calls Tryz.prog 4 #[.string ⟨#[36, 97, 61, 62, 39, 98, 92, 120, 48, 48, 39, 32, 47, 47, 32, 120, 10, 110, 117, 108, 108]⟩] w fun e w' => Below w.heap.size w w' ∧ ∃ g c, e = .returned (.tuple #[.slice (some ⟨g, 0, none⟩) 4 c, .int .i64 0, .int .i64 0]) ∧ Toks w.heap.size w' (.slice (some ⟨g, 0, none⟩) 4 c) aliveT := by
  refine (tokens_any aliveS (by decide) w hg).mono ?_
  rintro e w' ⟨hb, h⟩
  rw [if_neg (by decide), alive_lex1] at h
  obtain ⟨v, rfl, ho⟩ := h
  obtain ⟨g, c, rfl, _⟩ := Toks.cells (l := aliveT) ho (by decide)
  exact ⟨hb, g, c, rfl, ho⟩
theorem alive_t2 (w : World) (hg : Glob w) : Calls Tryz.prog 4 #[.string ⟨#[97, 10, 35]⟩] w fun e w' => e = .returned (.tuple #[.slice none 0 0, .int .i64 1, .int .i64 6]) ∧ Below w.heap.size w w' := by
  refine (tokens_any ⟨#[97, 10, 35]⟩ (by decide) w hg).mono ?_
  rintro e w' ⟨hb, h⟩
  rw [if_neg (by decide), show lexL (⟨#[97, 10, 35]⟩ : ByteArray).data.toList = .inl 1 from alive_lex2] at h
  exact ⟨h, hb⟩
set_option maxHeartbeats 2000000 in
set_option maxRecDepth 100000 in
theorem alive_any (w : World) (hg : Glob w) : Calls Tryz.prog 9 #[] w fun e w' => e = .returned (.bool true) ∧ Below w.heap.size w w' := by
  have T1 := Lib.hid (alive_t1 w hg)
  have HG := Lib.hid hg
  clear hg
  go_enter Tryz.func9, Tryz.ntmps9
  go_wp2_with fail
  refine T1.out.mono ?_
  rintro e w1 ⟨hb1, g, c, rfl, ht⟩
  have T2 := Lib.hid (alive_t2 w1 (HG.out.below hb1))
  have HB1 := Lib.hid hb1
  have HT := Lib.hid ht
  clear hb1 ht T1
  go_wp2_with fail
  refine T2.out.mono ?_
  rintro e w2 ⟨rfl, hb2⟩
  obtain ⟨g', c', hv, _, _, hc⟩ := (HT.out.below hb2).cells (by decide)
  injection hv with h1 h2 h3
  injection h1 with h1
  injection h1 with h1
  subst h1
  have a0 : w2.cell? ⟨g, 0, none⟩ = some (.int .u8 3) := (hc 0 (by decide)).c0
  have a1 : w2.cell? ⟨g, 1, none⟩ = some (.string ⟨#[97]⟩) := (hc 0 (by decide)).c1
  have a5 : w2.cell? ⟨g, 5, none⟩ = some (.string ⟨#[61, 62]⟩) := (hc 1 (by decide)).c1
  have a9 : w2.cell? ⟨g, 9, none⟩ = some (.string ⟨#[98, 0]⟩) := (hc 2 (by decide)).c1
  have a12 : w2.cell? ⟨g, 12, none⟩ = some (.int .u8 2) := (hc 3 (by decide)).c0
  have a15 : w2.cell? ⟨g, 15, none⟩ = some (.int .i64 1) := (hc 3 (by decide)).c3
  have HB2 := Lib.hid (Below.step HB1.out hb2)
  clear hb2 hc h2 h3 T2
  go_wp2_with (go_at_call 113; refine (alive_q _).mono ?_; rintro e w3 ⟨rfl, hb3⟩)
  go_ret
  exact ⟨rfl, Below.step HB2.out hb3⟩
end Go.Proofs.YtneekcggbnodnaaGreatDoor
