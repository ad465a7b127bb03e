/- The walk of LexTokens: it answers true. -/
import Derived.Test.YtneekcggbnodnaaGreatDoorBookApart
import Derived.Laws.Tables
import Derived.Deep.WholeRow
namespace Go.Proofs.YtneekcggbnodnaaGreatDoor
open Go Go.RowKit Go.Lib
set_option linter.unusedSimpArgs false
set_option linter.unusedVariables false

theorem bookTokens_any (B b : Nat) (n : Int) (vh : Value) (k : Nat) (xs : List Value) (w : World) (a0 : Option Addr) (m c0 : Nat) (h : Bk B b n vh k xs w) (hk : k ≤ 100) (hn0 : 0 ≤ n) (hn : n ≤ 100) (hB : B ≤ w.heap.size) :
    Calls Tryz.prog 7 #[.pointer (some ⟨b, 0, none⟩), .slice a0 m c0] w fun e w' => e = .returned (.tuple #[]) ∧ Below B w w' ∧ ∃ g cap, Bk B b (n + 1) (.slice (some ⟨g, 0, none⟩) (k + 1) cap) (k + 1) (xs ++ [.slice a0 m c0, .int .i64 n]) w' ∧ (vh.ownBlock = some g ∨ w.heap.size ≤ g) ∧ ∀ j, j < w.heap.size → j ≠ b → some j ≠ vh.ownBlock → w'.heap[j]? = w.heap[j]? := by
  have K := Lib.hid (keep_any B b n vh k xs w a0 m c0 h hk hn0 hn hB)
  clear h
  go_enter Tryz.func7, Tryz.ntmps7
  go_wp2_with fail
  refine K.out.mono ?_
  rintro e w' ⟨rfl, h⟩
  have H := Lib.hid h
  clear h
  go_wp2_with fail
  go_end0
  exact ⟨rfl, H.out⟩
theorem own_at {B size n : Nat} {e : TypeId} {v : Value} {xs : List Value} {w w' : World} (h : w.ownsRow B e size v n xs) (hb : ∀ k, v.ownBlock = some k → w'.heap[k]? = w.heap[k]?) : w'.ownsRow B e size v n xs := by
  refine ⟨h.1, ?_⟩
  rcases h.2 with hn | ⟨g, cap, cur, rfl, hbg, hg, rest⟩
  · exact .inl hn
  · exact .inr ⟨g, cap, cur, rfl, hbg, (hb g rfl).trans hg, rest⟩
theorem own_mono {B B' size n : Nat} {e : TypeId} {v : Value} {xs : List Value} {w : World} (h : w.ownsRow B e size v n xs) (hb : B' ≤ B) : w.ownsRow B' e size v n xs := by
  refine ⟨h.1, ?_⟩
  rcases h.2 with hn | ⟨g, cap, cur, rfl, hbg, rest⟩
  · exact .inl hn
  · exact .inr ⟨g, cap, cur, rfl, Nat.le_trans hb hbg, rest⟩
def pair (v1 v2 : Value) : Nat → Value := fun i => if i = 0 then v1 else v2
theorem two_made {N b g1 g2 k1 c1 cap : Nat} {v1 v2 : Value} {l : List Tk} {W w5 w6 : World} (h6 : Bk N b 2 (.slice (some ⟨g2, 0, none⟩) 2 cap) 2 [v1, .int .i64 0, v2, .int .i64 1] w6)
    (t1 : Toks N W v1 l) (t2 : Toks N W v2 l) (d1 : ∀ x, v1.ownBlock = some x → x < b) (d2 : ∀ x, v2.ownBlock = some x → x < b) (d12 : ∀ x y, v1.ownBlock = some x → v2.ownBlock = some y → x < y)
    (f5 : ∀ j, j < W.heap.size → j ≠ b → some j ≠ nilV.ownBlock → w5.heap[j]? = W.heap[j]?) (f6 : ∀ j, j < w5.heap.size → j ≠ b → some j ≠ (Value.slice (some ⟨g1, 0, none⟩) k1 c1).ownBlock → w6.heap[j]? = w5.heap[j]?)
    (g1h : nilV.ownBlock = some g1 ∨ W.heap.size ≤ g1) (g2h : (Value.slice (some ⟨g1, 0, none⟩) k1 c1).ownBlock = some g2 ∨ w5.heap.size ≤ g2) (hb : b < W.heap.size) (hs5 : W.heap.size ≤ w5.heap.size) :
    Two N b g2 cap (pair v1 v2) (fun _ => l) w6 := by
  have hg1 : W.heap.size ≤ g1 := by
    rcases g1h with e | e
    · simp [nilV, Value.ownBlock] at e
    · exact e
  have hg2 : W.heap.size ≤ g2 := by
    rcases g2h with e | e
    · simp only [Value.ownBlock, Option.some.injEq] at e
      omega
    · omega
  have hfar : ∀ x, x < b → w6.heap[x]? = W.heap[x]? := by
    intro x hx
    rw [f6 x (by omega) (by omega) (by simp only [Value.ownBlock, ne_eq, Option.some.injEq]; omega)]
    exact f5 x (by omega) (by omega) (by simp [nilV, Value.ownBlock])
  have hd : ∀ i, i < 2 → ∀ x, (pair v1 v2 i).ownBlock = some x → x < b := by
    intro i hi x
    match i, hi with
    | 0, _ => exact d1 x
    | 1, _ => exact d2 x
  refine ⟨h6, fun i hi => ?_, fun i hi => ?_, fun i j hi hj hij => ?_⟩
  · match i, hi with
    | 0, _ => exact own_at t1 fun k hk => hfar k (d1 k hk)
    | 1, _ => exact own_at t2 fun k hk => hfar k (d2 k hk)
  · refine ⟨fun e => ?_, fun e => ?_⟩
    · have := hd i hi g2 e; omega
    · have := hd i hi b e; omega
  · have e12 : v1.ownBlock = none ∨ v1.ownBlock ≠ v2.ownBlock := by
      rcases h1 : v1.ownBlock with _ | x
      · exact .inl rfl
      · refine .inr fun e => ?_
        have := d12 x x h1 e.symm
        omega
    match i, j, hi, hj with
    | 0, 1, _, _ => exact e12
    | 1, 0, _, _ =>
      show v2.ownBlock = none ∨ v2.ownBlock ≠ v1.ownBlock
      rcases h2 : v2.ownBlock with _ | x
      · exact .inl rfl
      · refine .inr fun e => ?_
        have := d12 x x e.symm h2
        omega
    | 0, 0, _, _ => exact absurd rfl hij
    | 1, 1, _, _ => exact absurd rfl hij
theorem tok_form (s : ByteArray) : ∃ (l : List Tk) (ln er : Int), l.length ≤ 65536 ∧ ∀ w e w', TokensEnd s w e w' → Below w.heap.size w w' ∧ ∃ v, e = .returned (.tuple #[v, .int .i64 ln, .int .i64 er]) ∧ Toks w.heap.size w' v l := by
  by_cases h : 65536 < s.size
  · refine ⟨[], 0, 3, by simp, fun w e w' ⟨hb, ht⟩ => ⟨hb, ?_⟩⟩
    rw [if_pos h] at ht
    exact ⟨_, ht, Toks.nil _ _⟩
  · have hf := lexF_facts s.data.toList.length s.data.toList 0 (Nat.le_refl _)
    rcases hR : lexL s.data.toList with ln | l
    · refine ⟨[], ln, 6, by simp, fun w e w' ⟨hb, ht⟩ => ⟨hb, ?_⟩⟩
      rw [if_neg h, hR] at ht
      exact ⟨_, ht, Toks.nil _ _⟩
    · rw [lexL] at hR
      rw [hR] at hf
      refine ⟨l, 0, 0, ?_, fun w e w' ⟨hb, ht⟩ => ⟨hb, ?_⟩⟩
      · have := hf.2.1
        rw [size_of] at this
        omega
      · rw [if_neg h, lexL, hR] at ht
        exact ht
theorem built_book : Tryz.prog.built 62 [] = some (bookCells 0 nilV) := by kernel_rfl
theorem wp_book {o : Oper} {a : Act} {w : World} {K : Act → World → Prop} {Q : Exit → Act → World → Prop} (ho : o.op = .build 62 #[]) (h : K (a.put o.dst (.agg (bookCells 0 nilV))) w) : o.wp Tryz.prog a w K Q := by
  refine wp_build 62 #[] ho ?_ ?_
  · simp [built_book]
  · simpa [built_book] using h
theorem book_one : (bookCells 0 nilV).all (·.oneCell') = true := by kernel_rfl
theorem book_size : (Tryz.prog.info? 62).map (·.size) = some (bookCells 0 nilV).size := by kernel_rfl
theorem wpList_bookStore {ops : Array Oper} {rest : List Oper} {o : Oper} {a : Act} {w : World} {Q : Exit → Act → World → Prop} (hg : o.guard = none) (x y : Operand) (ho : o.op = .store 62 x y) (hx : a.eval x = .pointer (some ⟨w.heap.size, 0, none⟩)) (hy : a.eval y = .agg (bookCells 0 nilV)) (old : Array Value) (hold : old.size = 35)
    (h : wpList Tryz.prog ops Q rest (a.put o.dst undef) (w.alloc (.cells (bookCells 0 nilV) 62))) : wpList Tryz.prog ops Q (o :: rest) a (w.alloc (.cells old 62)) := by
  refine wpList_store_row hg 62 x y ho w.heap.size (bookCells 0 nilV) hx hy 62 old (heap_alloc_new w _) book_size (by rw [hold]; rfl) book_one ?_
  rw [World.setRow_alloc_new]
  exact h
set_option maxHeartbeats 4000000 in
set_option maxRecDepth 100000 in
theorem lexTokens_walk (s : ByteArray) (hs : s.size ≤ 140737488355328) (w : World) (hg : Glob w) : Calls Tryz.prog 3 #[.string s] w fun e w' => e = .returned (.bool true) ∧ Below w.heap.size w w' := by
  obtain ⟨l, ln, er, hl, hT⟩ := tok_form s
  have T1 := Lib.hid ((tokens_any s hs w hg).mono fun e w' h => hT w e w' h)
  have HT := Lib.hid hT
  have HG := Lib.hid hg
  clear hT hg
  go_enter Tryz.func3, Tryz.ntmps3
  go_wp2_with fail
  refine T1.out.mono ?_
  rintro e w1 ⟨hb1, v1, rfl, t1⟩
  have T2 := Lib.hid ((tokens_any s hs w1 (HG.out.below hb1)).mono fun e w' h => HT.out w1 e w' h)
  obtain ⟨a1, c1, rfl⟩ := t1.form
  have HB1 := Lib.hid hb1
  have S1 := Lib.hid t1
  clear hb1 t1 T1
  go_wp2_with fail
  refine T2.out.mono ?_
  rintro e w2 ⟨hb2, v2, rfl, t2⟩
  have T3 := Lib.hid ((refTokens_any s hs w2).mono fun e w' h => HT.out w2 e w' h)
  obtain ⟨a2, c2, rfl⟩ := t2.form
  have HB2 := Lib.hid hb2
  have S2 := Lib.hid t2
  clear hb2 t2 T2
  go_wp2_with fail
  refine T3.out.mono ?_
  rintro e w3 ⟨hb3, v3, rfl, t3⟩
  obtain ⟨a3, c3, rfl⟩ := t3.form
  have HB3 := Lib.hid hb3
  have S3 := Lib.hid t3
  have Q1 := Lib.hid (same_any w.heap.size w2.heap.size _ _ l w3 ((S1.out.below HB2.out).below HB3.out) t3 (by omega))
  clear hb3 t3 T3
  go_wp2_with fail
  refine Q1.out.mono ?_
  rintro e w4 ⟨rfl, n4, rfl⟩
  have Q2 := Lib.hid (same_any w1.heap.size w2.heap.size _ _ l (w3.drewN n4) (S2.out.below HB3.out : Toks _ w3 _ _) S3.out (by omega))
  clear Q1
  go_wp2_with fail
  refine Q2.out.mono ?_
  rintro e w5 ⟨rfl, n5, rfl⟩
  clear Q2
  go_wp2_with fail
  obtain ⟨W, hW⟩ : ∃ W, W = w3.drewN (n4 + n5) := ⟨_, rfl⟩
  rw [← hW]
  have HBW : Hid (Below w.heap.size w W) := by
    rw [hW]
    exact below_drewN (Below.step (Below.step HB1.out HB2.out) HB3.out) _
  have HS1 : Hid (Toks w.heap.size W (.slice a1 l.length c1) l) := by
    rw [hW]
    exact ((S1.out.below HB2.out).below HB3.out : Toks _ w3 _ _)
  have HS2 : Hid (Toks w1.heap.size W (.slice a2 l.length c2) l) := by
    rw [hW]
    exact (S2.out.below HB3.out : Toks _ w3 _ _)
  have HGW : Hid (Glob W) := HG.out.below HBW.out
  clear hW S3
  refine wp_book rfl ?_
  go_wp2_with (refine wpList_bookStore rfl (.tmp 12) (.tmp 61) rfl rfl rfl _ rfl ?_)
  have hN : w.heap.size ≤ W.heap.size := HBW.out.size
  obtain ⟨W2, hW2⟩ : ∃ W2, W2 = W.alloc (.cells (bookCells 0 nilV) 62) := ⟨_, rfl⟩
  rw [← hW2]
  have hsz : W2.heap.size = W.heap.size + 1 := by rw [hW2]; simp
  have hBk : Bk w.heap.size W.heap.size 0 nilV 0 [] W2 := ⟨hN, by rw [hW2]; exact heap_alloc_new W _, World.ownsRow_nil _ _ _ _, by simp [nilV, Value.ownBlock]⟩
  have hB2 : Below w.heap.size w W2 := by rw [hW2]; exact HBW.out.alloc hN _
  have ht1 : Toks w.heap.size W2 (.slice a1 l.length c1) l := by rw [hW2]; exact World.ownsRow.alloc HS1.out _
  have ht2 : Toks w.heap.size W2 (.slice a2 l.length c2) l := by rw [hW2]; exact World.ownsRow.alloc (own_mono HS2.out HB1.out.size) _
  have d1 : ∀ x, (Value.slice a1 l.length c1).ownBlock = some x → x < W.heap.size := fun x h => (World.ownsRow.lt HS1.out x h).2
  have d2 : ∀ x, (Value.slice a2 l.length c2).ownBlock = some x → x < W.heap.size := fun x h => (World.ownsRow.lt HS2.out x h).2
  have d12 : ∀ x y, (Value.slice a1 l.length c1).ownBlock = some x → (Value.slice a2 l.length c2).ownBlock = some y → x < y := fun x y h1 h2 => by
    have := (World.ownsRow.lt S1.out x h1).2
    have := (World.ownsRow.lt HS2.out y h2).1
    omega
  have K1 := Lib.hid (bookTokens_any w.heap.size W.heap.size 0 nilV 0 [] W2 a1 l.length c1 hBk (by decide) (by decide) (by decide) (by omega))
  have D1 := Lib.hid d1
  have D2 := Lib.hid d2
  have D12 := Lib.hid d12
  have X1 := Lib.hid ht1
  have X2 := Lib.hid ht2
  have XB := Lib.hid hB2
  have XS := Lib.hid hsz
  have XN := Lib.hid hN
  clear d1 d2 d12 ht1 ht2 hB2 hsz hN hBk hW2 HBW HS1 HS2 HGW S1 S2 HB1 HB2 HB3
  refine K1.out.mono ?_
  rintro e w5 ⟨rfl, hb5, g1, p1, hk1, hg1, hf1⟩
  have K2 := Lib.hid (bookTokens_any w.heap.size W.heap.size (0 + 1) _ (0 + 1) _ w5 a2 l.length c2 hk1 (by decide) (by decide) (by decide) (by have := hb5.size; have := XN.out; have := XS.out; omega))
  have HB5 := Lib.hid hb5
  have HG1 := Lib.hid hg1
  have HF1 := Lib.hid hf1
  clear hb5 hk1 hg1 hf1 K1
  go_wp2_with fail
  refine K2.out.mono ?_
  rintro e w6 ⟨rfl, hb6, g2, p2, hk2, hg2, hf2⟩
  have TW : Two w.heap.size W.heap.size g2 p2 (pair (.slice a1 l.length c1) (.slice a2 l.length c2)) (fun _ => l) w6 :=
    two_made hk2 X1.out X2.out D1.out D2.out D12.out HF1.out hf2 HG1.out hg2 (by have := XS.out; omega) HB5.out.size
  have HB6 : Hid (Below w.heap.size w w6) := (XB.out.trans HB5.out).trans hb6
  have AP := Lib.hid (apart_any w.heap.size W.heap.size g2 p2 _ _ w6 HB6.out.size TW (fun i hi => by omega))
  clear hb6 hk2 hg2 hf2 TW K2
  go_wp2_with fail
  refine AP.out.mono ?_
  rintro e w7 ⟨rfl, hb7⟩
  have HB7 := Lib.hid (HB6.out.trans hb7)
  have HG7 : Hid (Glob w7) := HG.out.below HB7.out
  clear hb7 AP
  go_wp2_with (go_at_call 9; refine (alive_any _ HG7.out).mono ?_; rintro e w8 ⟨rfl, hb8⟩)
  go_ret
  exact ⟨rfl, Below.step HB7.out hb8⟩
end Go.Proofs.YtneekcggbnodnaaGreatDoor
