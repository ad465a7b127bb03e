/- TwinTokens, later: copies of a list of tokens. -/
import Derived.Test.YtneekcggbnodnaaDoorLexSame
import Derived.Laws.CopyRow
import Derived.Laws.CopyOwn
import Derived.Laws.MakeOwn
namespace Go.Proofs.YtneekcggbnodnaaDoor
open Go Go.RowKit Go.Lib
set_option linter.unusedSimpArgs false
set_option linter.unusedVariables false

/-- copy, of elements of any number of cells, into a row of the call's own. -/
theorem run_copyN {P : Program} (w : World) (dT sT ty elem : TypeId) (g o dLen dCap : Nat) (a : Addr) (sLen sCap sz : Nat) (cur : Array Value) (t : TypeId) (cs : List Value)
    (hu : P.underlying dT = some (.slice elem)) (hs : (P.info? elem).map (·.size) = some sz)
    (hg : w.heap[g]? = some (.cells cur t (0, 0))) (hn : cs.length = Nat.min sLen dLen * sz)
    (hsrc : ∀ j v, cs[j]? = some v → w.cell? (a.add j) = some v) (hfit : o + cs.length ≤ cur.size) (h1 : ∀ v ∈ cs, v.oneCell' = true) :
    (Builtin.copy_ #[dT, sT] ty #[.slice (some ⟨g, o, none⟩) dLen dCap, .slice (some a) sLen sCap]).run P w =
      .ok (goInt (Nat.min sLen dLen)) (w.setRow g (cur.toList.take o ++ cs ++ cur.toList.drop (o + cs.length)).toArray) := by
  have hl := run_loadCells_list (P := P) w a cs hsrc
  have hst := run_storeCells_at P g o t cs 0 cur w hg (by simpa using hfit) h1
  cases hq : P.info? elem with
  | none => simp [hq] at hs
  | some i =>
    have hi : i.size = sz := by simpa [hq] using hs
    simp [Builtin.copy_, run_underlying hu, Builtin.lenOf, Builtin.firstCells, sizeOf, typeInfo, hq, hi, ← hn, hl, hst]
theorem wpList_copyN {P : Program} {w : World} {ops : Array Oper} {rest : List Oper} {o : Oper} {a : Act} {Q : Exit → Act → World → Prop} (hgd : o.guard = none) (d s : Operand) (dT sT : TypeId)
    (ho : o.op = .call { callee := .builtin .copy, args := #[d, s], argTypes := #[dT, sT] }) (elem : TypeId) (sz : Nat) (hu : P.underlying dT = some (.slice elem)) (hsz : (P.info? elem).map (·.size) = some sz)
    (g off dLen dCap : Nat) (ad : Addr) (sLen sCap : Nat) (hd : a.eval d = .slice (some ⟨g, off, none⟩) dLen dCap) (hs : a.eval s = .slice (some ad) sLen sCap)
    (cur : Array Value) (t : TypeId) (hg : w.heap[g]? = some (.cells cur t (0, 0))) (cs : List Value) (hn : cs.length = Nat.min sLen dLen * sz)
    (hsrc : ∀ j v, cs[j]? = some v → w.cell? (ad.add j) = some v) (hfit : off + cs.length ≤ cur.size) (h1 : ∀ v ∈ cs, v.oneCell' = true)
    (h : ∀ w2, Hid (w2 = w.setRow g (cur.toList.take off ++ cs ++ cur.toList.drop (off + cs.length)).toArray) → wpList P ops Q rest (a.put o.dst (goInt (Nat.min sLen dLen))) w2) : wpList P ops Q (o :: rest) a w := by
  refine wpList_plain hgd fun K hK => ?_
  have hrun := run_copyN (P := P) w dT sT o.type elem g off dLen dCap ad sLen sCap sz cur t cs hu hsz hg hn hsrc hfit h1
  unfold Oper.wp
  simp only [execOp, ho, resolve, invoke, builtin, hd, hs]
  have h2 := h _ (Lib.hid rfl)
  generalize w.setRow g (cur.toList.take off ++ cs ++ cur.toList.drop (off + cs.length)).toArray = w2 at hrun h2
  generalize Nat.min sLen dLen = nn at hrun h2
  simp [execOp, ho, resolve, invoke, builtin, hd, hs, hrun, Result.andThen]
  exact hK _ _ h2
theorem splice_size {X : List Value} {M : Array Value} (h : X.length ≤ M.size) : (M.toList.take 0 ++ X ++ M.toList.drop (0 + X.length)).toArray.size = M.size := by
  simp
  omega
theorem splice_take {X : List Value} {M : Array Value} : (M.toList.take 0 ++ X ++ M.toList.drop (0 + X.length)).toArray.toList.take X.length = X := by
  simp
/-- copy out of nothing. -/
theorem run_copyN0 {P : Program} (w : World) (dT sT ty elem : TypeId) (g o dCap : Nat) (sp : Option Addr) (sCap : Nat) (hu : P.underlying dT = some (.slice elem)) (hs : ((P.info? elem).map (·.size)).isSome = true) :
    (Builtin.copy_ #[dT, sT] ty #[.slice (some ⟨g, o, none⟩) 0 dCap, .slice sp 0 sCap]).run P w = .ok (goInt 0) w := by
  cases hq : P.info? elem with
  | none => simp [hq] at hs
  | some i =>
    cases sp with
    | none => simp [Builtin.copy_, run_underlying hu, Builtin.lenOf, Builtin.firstCells, sizeOf, typeInfo, hq, storeCells]
    | some a =>
      have hl := run_loadCells_list (P := P) w a [] (fun j v h => by simp at h)
      simp only [List.length_nil] at hl
      simp [Builtin.copy_, run_underlying hu, Builtin.lenOf, Builtin.firstCells, sizeOf, typeInfo, hq, storeCells, hl]
theorem wpList_copyN0 {P : Program} {w : World} {ops : Array Oper} {rest : List Oper} {o : Oper} {a : Act} {Q : Exit → Act → World → Prop} (hgd : o.guard = none) (d s : Operand) (dT sT : TypeId)
    (ho : o.op = .call { callee := .builtin .copy, args := #[d, s], argTypes := #[dT, sT] }) (elem : TypeId) (hu : P.underlying dT = some (.slice elem)) (hsz : ((P.info? elem).map (·.size)).isSome = true)
    (g off dCap : Nat) (sp : Option Addr) (sCap : Nat) (hd : a.eval d = .slice (some ⟨g, off, none⟩) 0 dCap) (hs : a.eval s = .slice sp 0 sCap)
    (h : wpList P ops Q rest (a.put o.dst (goInt 0)) w) : wpList P ops Q (o :: rest) a w := by
  refine wpList_plain hgd fun K hK => ?_
  have hrun := run_copyN0 (P := P) w dT sT o.type elem g off dCap sp sCap hu hsz
  unfold Oper.wp
  simp [execOp, ho, resolve, invoke, builtin, hd, hs, hrun, Result.andThen]
  exact hK _ _ h
theorem infoTok4 : (Tryd.prog.info? 31).map (·.size) = some 4 := by kernel_rfl
theorem mark_any (n : Int) (h0 : 0 ≤ n) (h1 : n ≤ 2000000) (w : World) : Calls Tryd.prog 31 #[.int .i64 n] w fun e w' => e = .returned (.agg #[.int .u8 0, .string ⟨#[]⟩, .int .i64 0, .int .i64 (-1000 - n)]) ∧ Below w.heap.size w w' := by
  go_enter Tryd.func31, Tryd.ntmps31
  go_wp2
  exact bodyPost_ret (v := .agg #[.int .u8 0, .string ⟨#[]⟩, .int .i64 0, .int .i64 (-1000 - n)]) (by simp [results, Tryd.results31, go_sem]) rfl ⟨rfl, (Below.refl _ w).alloc (Nat.le_refl _) _⟩
/-- At each round's head: the copy's row; what stands from its end on is of no concern. -/
def TwinRel (N n : Nat) (xs : List Value) (w wr : World) : Prop :=
  ∃ cur : Array Value, wr.heap[N]? = some (.cells cur 31 (0, 0)) ∧ cur.size = (n + 2) * 4 ∧ cur.toList.take (n * 4) = xs ∧ Below N w wr
theorem twin_set {cur : Array Value} {n j : Nat} {xs : List Value} (hct : cur.toList.take (n * 4) = xs) (hj : n * 4 ≤ j) (v : Value) : (cur.setIfInBounds j v).toList.take (n * 4) = xs := by
  rw [Array.toList_setIfInBounds, List.take_set_of_le hj]
  exact hct
theorem twin_step {N n k : Nat} {xs : List Value} {w w3 : World} {cur : Array Value} {y0 y1 y2 y3 : Value} (h3 : w3.heap[N]? = some (.cells cur 31 (0, 0))) (hcs : cur.size = (n + 2) * 4) (hct : cur.toList.take (n * 4) = xs) (hcb : Below N w w3) (hk : n ≤ k) :
    Hid (TwinRel N n xs w ((((w3.setCell ⟨N, k * 4, none⟩ y0).setCell ⟨N, k * 4 + 1, none⟩ y1).setCell ⟨N, k * 4 + 2, none⟩ y2).setCell ⟨N, k * 4 + 3, none⟩ y3)) := by
  refine ⟨_, Joins.block_setCell (Joins.block_setCell (Joins.block_setCell (Joins.block_setCell h3 y0) y1) y2) y3, by simpa using hcs, ?_, ?_⟩
  · exact twin_set (twin_set (twin_set (twin_set hct (by omega) _) (by omega) _) (by omega) _) (by omega) _
  · exact below_setCell (below_setCell (below_setCell (below_setCell hcb (Nat.le_refl _) _ _) (Nat.le_refl _) _ _) (Nat.le_refl _) _ _) (Nat.le_refl _) _ _
set_option maxHeartbeats 4000000 in
set_option maxRecDepth 100000 in
theorem twin_some (B : Nat) (v : Value) (l : List Tk) (w : World) (h : Toks B w v l) (hl : l.length ≤ 1000000) (h0 : ¬ l.length = 0) : Calls Tryd.prog 18 #[v] w fun e w' => Below w.heap.size w w' ∧ ∃ g, e = .returned (.slice (some ⟨g, 0, none⟩) l.length (l.length + 2)) ∧ Toks w.heap.size w' (.slice (some ⟨g, 0, none⟩) l.length (l.length + 2)) l := by
  obtain ⟨i0, hi, hz0, hz1, hz2⟩ := info_parts infoTok
  obtain ⟨a, c, rfl⟩ := h.form
  have hmk := fun (w : World) => Go.run_make (P := Tryd.prog) w 25 31 i0 _ Tryd.underlying25 hi hz0 .i64 .i64 (l.length : Int) ((l.length : Int) + 2) (by omega) (by omega) (by rw [hz2]; omega) (by omega)
  rw [hz1] at hmk
  have hc : ((l.length : Int) + 2).toNat = l.length + 2 := by omega
  rw [hc, Int.toNat_natCast] at hmk
  generalize hM : madeCells _ ((l.length + 2) * 4) = M at hmk
  have hMs : M.size = (l.length + 2) * 4 := by rw [← hM]; exact size_madeCells _ _
  clear hM hc hz0 hz1
  have H := Lib.hid h
  have HMS := Lib.hid hMs
  clear h hMs
  have hmk1 := hmk w
  clear hmk
  have hmk := hmk1
  clear hmk1
  have hW1 : (w.alloc (.cells M 31)).heap[w.heap.size]? = some (.cells M 31 (0, 0)) := heap_alloc_new w _
  have hB1 : Below w.heap.size w (w.alloc (.cells M 31)) := (Below.refl _ w).alloc (Nat.le_refl _) _
  have hT1 : Toks B (w.alloc (.cells M 31)) (.slice a l.length c) l := World.ownsRow.alloc H.out _
  generalize w.alloc (.cells M 31) = W1 at hmk hW1 hB1 hT1
  generalize hN : w.heap.size = N at hmk hW1 hB1 ⊢
  have HN := Lib.hid hN
  have HW1 := Lib.hid hW1
  have HB1 := Lib.hid hB1
  have HT1 := Lib.hid hT1
  have htk := tk_len l
  have hM2 : (l.flatMap Tk.cells).length ≤ M.size := by rw [htk, HMS.out]; omega
  have HM2 := Lib.hid hM2
  have HTK := Lib.hid htk
  clear hN hW1 hB1 hT1 hz2 htk hM2
  obtain ⟨g, c', hv, _, _, _⟩ := Toks.cells HT1.out (by omega)
  injection hv with q1 q2 q3
  subst q1
  subst q3
  have hsrc : Hid (∀ j u, (l.flatMap Tk.cells)[j]? = some u → W1.cell? ((⟨g, 0, none⟩ : Addr).add j) = some u) := fun j u hj => World.ownsRow.cells HT1.out (g := g) rfl j u hj
  have hone : Hid (∀ u ∈ l.flatMap Tk.cells, u.oneCell' = true) := by
    intro u hu
    obtain ⟨t, _, ht⟩ := List.mem_flatMap.1 hu
    simp only [Tk.cells, List.mem_cons, List.not_mem_nil, or_false] at ht
    rcases ht with rfl | rfl | rfl | rfl <;> rfl
  go_enter Tryd.func18, Tryd.ntmps18
  go_wp2_with (refine wpList_copyN rfl (.tmp 12) (.tmp 13) 25 25 rfl 31 4 Tryd.underlying25 infoTok4 N 0 _ _ ⟨g, 0, none⟩ _ _ rfl rfl M 31 HW1.out (l.flatMap Tk.cells) (by rw [HTK.out]; simp) hsrc.out (by rw [Nat.zero_add]; exact HM2.out) hone.out ?_; intro W2 hW2)
  have hrel0 : Hid (TwinRel N l.length (l.flatMap Tk.cells) w W2) := by
    rw [hW2.out]
    refine ⟨_, setRow_heap W1 N _ _ _ _ HW1.out, ?_, ?_, below_setRow HB1.out (Nat.le_refl _) _⟩
    · rw [splice_size HM2.out]; exact HMS.out
    · rw [← HTK.out]; exact splice_take
  clear hW2
  clear hmk
  go_loopw [5] (fun i wr => ∃ k : Nat, i = .int .i64 k ∧ l.length ≤ k ∧ k ≤ l.length + 2 ∧ Hid (TwinRel N l.length (l.flatMap Tk.cells) w wr)) (fun i _ => l.length + 2 - (intOf i).toNat)
  case atStart => exact ⟨l.length, rfl, Nat.le_refl _, by omega, hrel0⟩
  case round =>
    obtain ⟨k, rfl, hk0, hk1, hr⟩ := hrel
    by_cases hlt : k < l.length + 2
    · have MK := Lib.hid (mark_any k (by omega) (by omega) wr)
      have m1 : (0 : Int) ≤ (k : Int) := by omega
      have m2 : (k : Int) < (l.length : Int) + 2 := by omega
      go_wp2_with fail
      refine MK.out.mono ?_
      rintro e w3 ⟨rfl, hb3⟩
      obtain ⟨cur, hcur, hcs, hct, hcb⟩ := hr.out
      have hNl : N < wr.heap.size := by
        rcases Nat.lt_or_ge N wr.heap.size with h' | h'
        · exact h'
        · simp [Array.getElem?_eq_none h'] at hcur
      have h3 : w3.heap[N]? = some (.cells cur 31 (0, 0)) := (hb3.block N hNl).trans hcur
      have fz : ∀ j, w3.frozen? ⟨N, j, none⟩ = false := fun j => Lib.frozen_of_heap h3 j
      have cz : ∀ j, w3.cell? ⟨N, j, none⟩ = cur[j]? := fun j => by rw [Lib.cell_of_heap h3]
      have g0 : ∃ v, w3.cell? ⟨N, k * 4, none⟩ = some v := ⟨cur[k * 4]'(by omega), by rw [cz, Array.getElem?_eq_getElem (by omega)]⟩
      have g1 : ∃ v, w3.cell? ⟨N, k * 4 + 1, none⟩ = some v := ⟨cur[k * 4 + 1]'(by omega), by rw [cz, Array.getElem?_eq_getElem (by omega)]⟩
      have g2 : ∃ v, w3.cell? ⟨N, k * 4 + 2, none⟩ = some v := ⟨cur[k * 4 + 2]'(by omega), by rw [cz, Array.getElem?_eq_getElem (by omega)]⟩
      have g3 : ∃ v, w3.cell? ⟨N, k * 4 + 3, none⟩ = some v := ⟨cur[k * 4 + 3]'(by omega), by rw [cz, Array.getElem?_eq_getElem (by omega)]⟩
      obtain ⟨y0, g0⟩ := g0
      obtain ⟨y1, g1⟩ := g1
      obtain ⟨y2, g2⟩ := g2
      obtain ⟨y3, g3⟩ := g3
      have z0 := fz (k * 4)
      have z1 := fz (k * 4 + 1)
      have z2 := fz (k * 4 + 2)
      have z3 := fz (k * 4 + 3)
      have H3 := Lib.hid h3
      have HCS := Lib.hid hcs
      have HCT := Lib.hid hct
      have HCB := Lib.hid (hcb.trans (hb3.mono (by omega)))
      clear fz cz h3 hcs hct hcb hb3 hcur hNl MK
      go_wp2_with fail
      go_roundw
      case rel => exact ⟨k + 1, by go_num, by omega, by omega, twin_step H3.out HCS.out HCT.out HCB.out (by omega)⟩
      case measure => simp [intOf]; omega
    · have hrr := hr.out
      go_wp2_with fail
      go_ret
      obtain ⟨cur, hcur, hcs, hct, hcb⟩ := hrr
      refine ⟨hcb, N, rfl, ?_⟩
      exact ⟨HTK.out, .inr ⟨N, l.length + 2, cur, rfl, Nat.le_refl _, hcur, by omega, by unfold maxLen; omega, hcs, hct⟩⟩
set_option maxHeartbeats 4000000 in
set_option maxRecDepth 100000 in
theorem twin_none (B : Nat) (v : Value) (w : World) (h : Toks B w v []) : Calls Tryd.prog 18 #[v] w fun e w' => Below w.heap.size w w' ∧ ∃ g, e = .returned (.slice (some ⟨g, 0, none⟩) 0 2) ∧ Toks w.heap.size w' (.slice (some ⟨g, 0, none⟩) 0 2) [] := by
  obtain ⟨i0, hi, hz0, hz1, hz2⟩ := info_parts infoTok
  obtain ⟨a, c, rfl⟩ := h.form
  have hmk := Go.run_make (P := Tryd.prog) w 25 31 i0 _ Tryd.underlying25 hi hz0 .i64 .i64 0 2 (by omega) (by omega) (by rw [hz2]; omega) (by omega)
  rw [hz1, show (2 : Int).toNat = 2 from rfl, show (0 : Int).toNat = 0 from rfl] at hmk
  generalize hM : madeCells _ (2 * 4) = M at hmk
  have hMs : M.size = 2 * 4 := by rw [← hM]; exact size_madeCells _ _
  have HMS := Lib.hid hMs
  have hW1 : (w.alloc (.cells M 31)).heap[w.heap.size]? = some (.cells M 31 (0, 0)) := heap_alloc_new w _
  have hB1 : Below w.heap.size w (w.alloc (.cells M 31)) := (Below.refl _ w).alloc (Nat.le_refl _) _
  generalize w.alloc (.cells M 31) = W1 at hmk hW1 hB1
  generalize hN : w.heap.size = N at hmk hW1 hB1 ⊢
  have HN := Lib.hid hN
  have HW1 := Lib.hid hW1
  have HB1 := Lib.hid hB1
  clear hN hW1 hB1 hz0 hz1 hz2 hM hMs h
  go_enter Tryd.func18, Tryd.ntmps18
  go_wp2_with (refine wpList_copyN0 rfl (.tmp 12) (.tmp 13) 25 25 rfl 31 Tryd.underlying25 (by rw [infoTok4]; rfl) N 0 _ _ _ rfl rfl ?_)
  have hrel0 : Hid (TwinRel N 0 [] w W1) := ⟨M, HW1.out, by have := HMS.out; omega, by simp, HB1.out⟩
  clear hmk
  go_loopw [5] (fun i wr => ∃ k : Nat, i = .int .i64 k ∧ k ≤ 2 ∧ Hid (TwinRel N 0 [] w wr)) (fun i _ => 2 - (intOf i).toNat)
  case atStart => exact ⟨0, rfl, by omega, hrel0⟩
  case round =>
    obtain ⟨k, rfl, hk1, hr⟩ := hrel
    by_cases hlt : k < 2
    · have MK := Lib.hid (mark_any k (by omega) (by omega) wr)
      have m1 : (0 : Int) ≤ (k : Int) := by omega
      have m2 : (k : Int) < 2 := by omega
      go_wp2_with fail
      refine MK.out.mono ?_
      rintro e w3 ⟨rfl, hb3⟩
      obtain ⟨cur, hcur, hcs, hct, hcb⟩ := hr.out
      have hNl : N < wr.heap.size := by
        rcases Nat.lt_or_ge N wr.heap.size with h' | h'
        · exact h'
        · simp [Array.getElem?_eq_none h'] at hcur
      have h3 : w3.heap[N]? = some (.cells cur 31 (0, 0)) := (hb3.block N hNl).trans hcur
      have fz : ∀ j, w3.frozen? ⟨N, j, none⟩ = false := fun j => Lib.frozen_of_heap h3 j
      have cz : ∀ j, w3.cell? ⟨N, j, none⟩ = cur[j]? := fun j => by rw [Lib.cell_of_heap h3]
      have g0 : ∃ v, w3.cell? ⟨N, k * 4, none⟩ = some v := ⟨cur[k * 4]'(by omega), by rw [cz, Array.getElem?_eq_getElem (by omega)]⟩
      have g1 : ∃ v, w3.cell? ⟨N, k * 4 + 1, none⟩ = some v := ⟨cur[k * 4 + 1]'(by omega), by rw [cz, Array.getElem?_eq_getElem (by omega)]⟩
      have g2 : ∃ v, w3.cell? ⟨N, k * 4 + 2, none⟩ = some v := ⟨cur[k * 4 + 2]'(by omega), by rw [cz, Array.getElem?_eq_getElem (by omega)]⟩
      have g3 : ∃ v, w3.cell? ⟨N, k * 4 + 3, none⟩ = some v := ⟨cur[k * 4 + 3]'(by omega), by rw [cz, Array.getElem?_eq_getElem (by omega)]⟩
      obtain ⟨y0, g0⟩ := g0
      obtain ⟨y1, g1⟩ := g1
      obtain ⟨y2, g2⟩ := g2
      obtain ⟨y3, g3⟩ := g3
      have z0 := fz (k * 4)
      have z1 := fz (k * 4 + 1)
      have z2 := fz (k * 4 + 2)
      have z3 := fz (k * 4 + 3)
      have H3 := Lib.hid h3
      have HCS := Lib.hid hcs
      have HCT := Lib.hid hct
      have HCB := Lib.hid (hcb.trans (hb3.mono (by omega)))
      clear fz cz h3 hcs hct hcb hb3 hcur hNl MK
      go_wp2_with fail
      go_roundw
      case rel => exact ⟨k + 1, by go_num, by omega, twin_step H3.out HCS.out HCT.out HCB.out (by omega)⟩
      case measure => simp [intOf]; omega
    · have hrr := hr.out
      go_wp2_with fail
      go_ret
      obtain ⟨cur, hcur, hcs, hct, hcb⟩ := hrr
      refine ⟨hcb, N, rfl, ?_⟩
      exact ⟨rfl, .inr ⟨N, 2, cur, rfl, Nat.le_refl _, hcur, by simp, by unfold maxLen; omega, hcs, hct⟩⟩
/-- TwinTokens: a copy, in memory of its own; marks behind. -/
theorem twin_any (B : Nat) (v : Value) (l : List Tk) (w : World) (h : Toks B w v l) (hl : l.length ≤ 1000000) : Calls Tryd.prog 18 #[v] w fun e w' => Below w.heap.size w w' ∧ ∃ g, e = .returned (.slice (some ⟨g, 0, none⟩) l.length (l.length + 2)) ∧ Toks w.heap.size w' (.slice (some ⟨g, 0, none⟩) l.length (l.length + 2)) l := by
  by_cases h0 : l.length = 0
  · obtain rfl : l = [] := List.eq_nil_of_length_eq_zero h0
    exact twin_none B v w h
  · exact twin_some B v l w h hl h0
end Go.Proofs.YtneekcggbnodnaaDoor
