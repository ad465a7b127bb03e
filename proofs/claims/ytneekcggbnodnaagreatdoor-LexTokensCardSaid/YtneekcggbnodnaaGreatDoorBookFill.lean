/- A Book that holds two lists of tokens; each is filled with its mark. -/
import Derived.Test.YtneekcggbnodnaaGreatDoorBookKeep
namespace Go.Proofs.YtneekcggbnodnaaGreatDoor
open Go Go.RowKit Go.Lib
set_option linter.unusedSimpArgs false
set_option linter.unusedVariables false

/-- The first k tokens are turned. -/
def upTo (f : Tk → Tk) (k : Nat) (l : List Tk) : List Tk := (l.take k).map f ++ l.drop k
theorem upTo_len (f : Tk → Tk) (k : Nat) (l : List Tk) : (upTo f k l).length = l.length := by
  simp [upTo]
  omega
theorem upTo_zero (f : Tk → Tk) (l : List Tk) : upTo f 0 l = l := by simp [upTo]
theorem upTo_all (f : Tk → Tk) (l : List Tk) : upTo f l.length l = l.map f := by simp [upTo]
theorem upTo_at (f : Tk → Tk) (k : Nat) (l : List Tk) (h : k < l.length) : (upTo f k l)[k]'(by rw [upTo_len]; exact h) = l[k] := by
  simp only [upTo]
  rw [List.getElem_append_right (by simp; omega)]
  simp [Nat.min_eq_left (Nat.le_of_lt h)]
theorem upTo_step (f : Tk → Tk) (k : Nat) (l : List Tk) (h : k < l.length) : upTo f (k + 1) l = (upTo f k l).set k (f l[k]) := by
  apply List.ext_getElem
  · simp [upTo_len]
  · intro i h1 h2
    rw [List.getElem_set]
    by_cases e : k = i
    · subst e
      rw [if_pos rfl]
      simp only [upTo]
      rw [List.getElem_append_left (by simp; omega)]
      simp
    · rw [if_neg e]
      simp only [upTo]
      rw [upTo_len] at h1
      by_cases hi : i < k
      · rw [List.getElem_append_left (by simp; omega), List.getElem_append_left (by simp; omega)]
        simp
      · rw [List.getElem_append_right (by simp; omega), List.getElem_append_right (by simp; omega)]
        simp
        congr 1
        omega
theorem Toks.frozen {B g c : Nat} {w : World} {l : List Tk} (h : Toks B w (.slice (some ⟨g, 0, none⟩) l.length c) l) (j : Nat) : w.frozen? ⟨g, j, none⟩ = false := World.ownsRow.frozenAt h j
theorem Toks.atBlock {B g c n : Nat} {w : World} {l : List Tk} (h : Toks B w (.slice (some ⟨g, 0, none⟩) n c) l) : n = l.length ∧ B ≤ g ∧ g < w.heap.size := by
  have h1 := World.ownsRow.lt h g rfl
  obtain ⟨a, c', hv⟩ := h.form
  injection hv with _ e _
  exact ⟨e, h1.1, h1.2⟩
def markT (n : Nat) : Tk := ⟨0, ⟨#[]⟩, 0, -1000 - (n : Int)⟩
def markV (n : Nat) : Value := .agg #[.int .u8 0, .string ⟨#[]⟩, .int .i64 0, .int .i64 (-1000 - (n : Int))]
def markO (n : Nat) : Obj := .cells #[.int .u8 0, .string ⟨#[]⟩, .int .i64 0, .int .i64 (-1000 - (n : Int))] 71
set_option maxRecDepth 100000 in
theorem mark_any (n : Nat) (hn : n ≤ 100) (w : World) : Calls Tryz.prog 137 #[.int .i64 n] w fun e w' => e = .returned (markV n) ∧ w' = w.alloc (markO n) := by
  have e1 : IntKind.i64.wrap (-1000 - (n : Int)) = -1000 - (n : Int) := IntWalk.i64_in _ (by omega)
  go_enter Tryz.func137, Tryz.ntmps137
  go_wp2
  exact bodyPost_ret (v := markV n) (by simp [results, Tryz.results137, go_sem, markV]) rfl ⟨rfl, rfl⟩
set_option maxRecDepth 100000 in
theorem is_any (n : Nat) (hn : n ≤ 100) (w : World) : Calls Tryz.prog 170 #[markV n, .int .i64 n] w fun e w' => e = .returned (.bool true) ∧ Below w.heap.size w w' := by
  have M := mark_any n hn
  simp only [markV, markO] at M
  have HM := Lib.hid M
  clear M
  unfold markV
  go_enter Tryz.func170, Tryz.ntmps170
  go_wp2_with fail
  go_region_with (go_at_call 137; refine (HM.out _).mono ?_; rintro e w3 ⟨rfl, rfl⟩)
  all_goals
    go_wp2
    go_ret
    exact ⟨rfl, (((Below.refl _ w).alloc (Nat.le_refl _) _).alloc (by simp) _).drew⟩
/-- The Book holds two lists, i = 0 and 1, each in a row of its own. -/
structure Two (B b g cap : Nat) (V : Nat → Value) (L : Nat → List Tk) (w : World) : Prop where
  bk : Bk B b 2 (.slice (some ⟨g, 0, none⟩) 2 cap) 2 [V 0, .int .i64 0, V 1, .int .i64 1] w
  tk : ∀ i, i < 2 → Toks B w (V i) (L i)
  ng : ∀ i, i < 2 → (V i).ownBlock ≠ some g ∧ (V i).ownBlock ≠ some b
  nn : ∀ i j, i < 2 → j < 2 → i ≠ j → (V i).ownBlock = none ∨ (V i).ownBlock ≠ (V j).ownBlock
theorem Bk.below {B b : Nat} {n : Int} {vh : Value} {k : Nat} {xs : List Value} {w w' : World} (h : Bk B b n vh k xs w) (hb : Below w.heap.size w w') : Bk B b n vh k xs w' :=
  ⟨h.base, (hb.block b h.lt).trans h.lies, own_belowN h.own (fun k hk => (World.ownsRow.lt h.own k hk).2) hb, h.ne⟩
theorem Two.below {B b g cap : Nat} {V : Nat → Value} {L : Nat → List Tk} {w w' : World} (h : Two B b g cap V L w) (hb : Below w.heap.size w w') : Two B b g cap V L w' :=
  ⟨h.bk.below hb, fun i hi => (h.tk i hi).below hb, h.ng, h.nn⟩
theorem Two.glt {B b g cap : Nat} {V : Nat → Value} {L : Nat → List Tk} {w : World} (h : Two B b g cap V L w) : B ≤ g ∧ g < w.heap.size := World.ownsRow.lt h.bk.own g rfl
/-- What the held row's cells are. -/
theorem Two.held {B b g cap : Nat} {V : Nat → Value} {L : Nat → List Tk} {w : World} (h : Two B b g cap V L w) (i : Nat) (hi : i < 2) : w.cell? ⟨g, i * 2, none⟩ = some (V i) ∧ w.cell? ⟨g, i * 2 + 1, none⟩ = some (.int .i64 i) ∧ w.frozen? ⟨g, i * 2, none⟩ = false := by
  have k : ∀ j, j < 4 → w.cell? ⟨g, j, none⟩ = [V 0, .int .i64 0, V 1, .int .i64 1][j]? := fun j hj => World.ownsRow.cellAt h.bk.own j hj
  refine ⟨?_, ?_, World.ownsRow.frozenAt h.bk.own _⟩
  · match i, hi with
    | 0, _ => exact k 0 (by decide)
    | 1, _ => exact k 2 (by decide)
  · match i, hi with
    | 0, _ => exact k 1 (by decide)
    | 1, _ => exact k 3 (by decide)
theorem Two.book {B b g cap : Nat} {V : Nat → Value} {L : Nat → List Tk} {w : World} (h : Two B b g cap V L w) : w.cell? ⟨b, 6, none⟩ = some (.slice (some ⟨g, 0, none⟩) 2 cap) := by
  rw [Lib.cell_of_heap h.bk.lies]; rfl
def upd (L : Nat → List Tk) (i : Nat) (x : List Tk) : Nat → List Tk := fun j => if j = i then x else L j
theorem upd_same (L : Nat → List Tk) (i : Nat) (x : List Tk) : upd L i x i = x := if_pos rfl
theorem upd_other (L : Nat → List Tk) (i j : Nat) (x : List Tk) (h : j ≠ i) : upd L i x j = L j := if_neg h
/-- A token is written whole. -/
theorem flat_put : ∀ (l : List Tk) (k : Nat) (t : Tk) (h : k < l.length), (l.set k t).flatMap Tk.cells = ((((l.flatMap Tk.cells).set (k * 4) (.int .u8 t.k)).set (k * 4 + 1) (.string t.s)).set (k * 4 + 2) (.int .i64 t.n)).set (k * 4 + 3) (.int .i64 t.line) := by
  intro l
  induction l with
  | nil => intro k n h; simp at h
  | cons t r ih =>
    intro k u h
    rcases k with _ | k
    · simp [Tk.cells]
    · have := ih k u (by simpa using h)
      rw [List.set_cons_succ, List.flatMap_cons, List.flatMap_cons, this]
      have hl : t.cells.length = 4 := rfl
      rw [show (k + 1) * 4 = t.cells.length + k * 4 by rw [hl]; omega, List.set_append_right _ _ (by omega), show t.cells.length + k * 4 + 1 = t.cells.length + (k * 4 + 1) by omega, List.set_append_right _ _ (by omega), show t.cells.length + k * 4 + 2 = t.cells.length + (k * 4 + 2) by omega, List.set_append_right _ _ (by omega), show t.cells.length + k * 4 + 3 = t.cells.length + (k * 4 + 3) by omega, List.set_append_right _ _ (by omega)]
      simp
def put4 (w : World) (g k : Nat) (t : Tk) : World := (((w.setCell ⟨g, k * 4, none⟩ (.int .u8 t.k)).setCell ⟨g, k * 4 + 1, none⟩ (.string t.s)).setCell ⟨g, k * 4 + 2, none⟩ (.int .i64 t.n)).setCell ⟨g, k * 4 + 3, none⟩ (.int .i64 t.line)
theorem Toks.put4 {B g c : Nat} {w : World} {l : List Tk} {k : Nat} (h : Toks B w (.slice (some ⟨g, 0, none⟩) l.length c) l) (hk : k < l.length) (t : Tk) : Toks B (put4 w g k t) (.slice (some ⟨g, 0, none⟩) l.length c) (l.set k t) := by
  unfold Toks
  rw [flat_put l k t hk, List.length_set]
  have s0 := (World.ownsRow.stored h (k * 4) (.int .u8 t.k)).1
  have s1 := (World.ownsRow.stored s0 (k * 4 + 1) (.string t.s)).1
  have s2 := (World.ownsRow.stored s1 (k * 4 + 2) (.int .i64 t.n)).1
  exact (World.ownsRow.stored s2 (k * 4 + 3) (.int .i64 t.line)).1
theorem put4_row {B size n g k : Nat} {e : TypeId} {v : Value} {xs : List Value} {w : World} {t : Tk} (h : w.ownsRow B e size v n xs) (hne : v.ownBlock ≠ some g) : (put4 w g k t).ownsRow B e size v n xs :=
  ownsRow_setCell_other (ownsRow_setCell_other (ownsRow_setCell_other (ownsRow_setCell_other h hne _) hne _) hne _) hne _
theorem put4_heap {w : World} {g k b : Nat} {t : Tk} (h : b ≠ g) : (put4 w g k t).heap[b]? = w.heap[b]? := by
  unfold put4
  rw [Below.heap_setCell _ _ _ _ h, Below.heap_setCell _ _ _ _ h, Below.heap_setCell _ _ _ _ h, Below.heap_setCell _ _ _ _ h]
theorem put4_below {B g k : Nat} {w w' : World} {t : Tk} (h : Below B w w') (hg : B ≤ g) : Below B w (put4 w' g k t) :=
  below_setCell (below_setCell (below_setCell (below_setCell h hg _ _) hg _ _) hg _ _) hg _ _
theorem put4_size {g k : Nat} {w : World} {t : Tk} : (put4 w g k t).heap.size = w.heap.size := by simp [put4, World.setCell]
theorem Two.put {B b g cap i j gi c : Nat} {V : Nat → Value} {L : Nat → List Tk} {w : World} {t : Tk} (h : Two B b g cap V L w) (hi : i < 2) (hV : V i = .slice (some ⟨gi, 0, none⟩) (L i).length c) (hj : j < (L i).length) : Two B b g cap V (upd L i ((L i).set j t)) (put4 w gi j t) := by
  have hb : (V i).ownBlock = some gi := by rw [hV]; rfl
  obtain ⟨n1, n2⟩ := h.ng i hi
  rw [hb] at n1 n2
  refine ⟨⟨h.bk.base, ?_, put4_row h.bk.own ?_, h.bk.ne⟩, fun m hm => ?_, h.ng, h.nn⟩
  · rw [put4_heap (fun e => n2 (by rw [e]))]
    exact h.bk.lies
  · exact fun e => n1 e.symm
  · by_cases e : m = i
    · subst e
      rw [upd_same, hV]
      have := h.tk m hm
      rw [hV] at this
      exact this.put4 hj t
    · rw [upd_other _ _ _ _ e]
      refine put4_row (h.tk m hm) ?_
      rcases h.nn m i hm hi e with q | q
      · rw [q]; simp
      · rwa [hb] at q
def filled (L : Nat → List Tk) (k : Nat) : Nat → List Tk := fun j => if j < k then (L j).map (fun _ => markT j) else L j
set_option maxHeartbeats 4000000 in
set_option maxRecDepth 100000 in
theorem fill_any (B b g cap : Nat) (V : Nat → Value) (L : Nat → List Tk) (w : World) (h : Two B b g cap V L w) (hL : ∀ i, i < 2 → (L i).length ≤ 1000000) :
    Calls Tryz.prog 17 #[.pointer (some ⟨b, 0, none⟩)] w fun e w' => e = .returned (.tuple #[]) ∧ Below B w w' ∧ Two B b g cap V (filled L 2) w' := by
  have hrel0 : Hid (Below B w w ∧ Two B b g cap V (filled L 0) w) := by
    refine ⟨Below.refl _ _, ?_⟩
    have : filled L 0 = L := by funext j; simp [filled]
    rw [this]; exact h
  have c6 := h.book
  clear h
  have HL := Lib.hid hL
  clear hL
  go_enter Tryz.func17, Tryz.ntmps17
  go_wp2_with fail
  go_loopw [10] (fun i wr => ∃ k : Nat, i = .int .i64 k ∧ k ≤ 2 ∧ Hid (Below B w wr ∧ Two B b g cap V (filled L k) wr)) (fun i _ => 2 - (intOf i).toNat)
  case atStart => exact ⟨0, rfl, by omega, hrel0⟩
  case round =>
    obtain ⟨k, rfl, hk, hr⟩ := hrel
    by_cases hlt : k < 2
    · have hll := HL.out k hlt
      obtain ⟨q0, q1, q2⟩ := hr.out.2.held k hlt
      have q6 := hr.out.2.book
      have hFk : filled L k k = L k := by simp [filled]
      have ht := hr.out.2.tk k hlt
      rw [hFk] at ht
      obtain ⟨a, c, hV⟩ := ht.form
      rw [hV] at q0
      have m1 : (0 : Int) ≤ (k : Int) := by omega
      have m2 : (k : Int) < 2 := by omega
      have HV := Lib.hid hV
      clear hV ht hFk c6
      go_wp2_with fail
      go_loopw [24] (fun i wi => ∃ j : Nat, i = .int .i64 j ∧ j ≤ (L k).length ∧ Hid (Below B w wi ∧ Two B b g cap V (upd (filled L k) k (upTo (fun _ => markT k) j (L k))) wi)) (fun i _ => (L k).length - (intOf i).toNat)
      case atStart =>
        refine ⟨0, rfl, by omega, hr.out.1, ?_⟩
        have : upd (filled L k) k (upTo (fun _ => markT k) 0 (L k)) = filled L k := by
          funext j
          by_cases e : j = k
          · subst e; rw [upd_same, upTo_zero]; simp [filled]
          · rw [upd_other _ _ _ _ e]
        rw [this]
        exact hr.out.2
      case round =>
        obtain ⟨j, rfl, hj, hri⟩ := hrel
        by_cases hlj : j < (L k).length
        · obtain ⟨r0, r1, _⟩ := hri.out.2.held k hlt
          have ht := hri.out.2.tk k hlt
          rw [upd_same] at ht
          have hul := upTo_len (fun _ => markT k) j (L k)
          have hjc : j < (upTo (fun _ => markT k) j (L k)).length := by rw [hul]; exact hlj
          obtain ⟨gk, ck, hv, hBg, hgk, hc⟩ := ht.cells (by omega)
          rw [hul] at hv
          have q := HV.out
          rw [hv] at q
          injection q with q1 _ q2
          subst q1 q2
          rw [hv] at r0
          obtain ⟨x0, b0⟩ : ∃ x, wr.cell? ⟨gk, j * 4, none⟩ = some x := ⟨_, (hc j hjc).c0⟩
          obtain ⟨x1, b1⟩ : ∃ x, wr.cell? ⟨gk, j * 4 + 1, none⟩ = some x := ⟨_, (hc j hjc).c1⟩
          obtain ⟨x2, b2⟩ : ∃ x, wr.cell? ⟨gk, j * 4 + 2, none⟩ = some x := ⟨_, (hc j hjc).c2⟩
          obtain ⟨x3, b3⟩ : ∃ x, wr.cell? ⟨gk, j * 4 + 3, none⟩ = some x := ⟨_, (hc j hjc).c3⟩
          have ht2 := ht
          rw [hv] at ht2
          rw [← hul] at ht2
          have fz := fun r => ht2.frozen (j * 4 + r)
          have z0 := fz 0
          have z1 := fz 1
          have z2 := fz 2
          have z3 := fz 3
          rw [Nat.add_zero] at z0
          have glt := hri.out.2.glt.2
          have M := mark_any k (by omega)
          simp only [markV, markO] at M
          have HM := Lib.hid M
          have n1 : (0 : Int) ≤ (j : Int) := by omega
          have n2 : (j : Int) < ((L k).length : Int) := by omega
          have HVV := Lib.hid hv
          have hP := hri.out.2.put (t := markT k) (c := ck) hlt (by rw [upd_same, hul]; exact hv) (by rw [upd_same]; exact hjc)
          rw [upd_same] at hP
          have hP2 : upd (upd (filled L k) k (upTo (fun _ => markT k) j (L k))) k ((upTo (fun _ => markT k) j (L k)).set j (markT k)) = upd (filled L k) k (upTo (fun _ => markT k) (j + 1) (L k)) := by
            rw [upTo_step _ j (L k) hlj]
            funext m
            by_cases e : m = k
            · subst e; rw [upd_same, upd_same]
            · rw [upd_other _ _ _ _ e, upd_other _ _ _ _ e, upd_other _ _ _ _ e]
          rw [hP2] at hP
          have hB4 := put4_below (k := j) (t := markT k) hri.out.1 hBg
          have HP : Hid (∀ o, Below B w ((put4 wr gk j (markT k)).alloc o).drew ∧ Two B b g cap V (upd (filled L k) k (upTo (fun _ => markT k) (j + 1) (L k))) ((put4 wr gk j (markT k)).alloc o).drew) := fun o =>
            ⟨(hB4.alloc (by rw [put4_size]; omega) o).drew, hP.below ((Below.refl _ _).alloc (Nat.le_refl _) o).drew⟩
          clear M fz ht ht2 hc hjc hul hv hBg hr q0 q1 q2 q6 hP hP2 hB4
          go_wp2_with fail
          go_region_with (go_at_call 137; refine (HM.out _).mono ?_; rintro e w3 ⟨rfl, rfl⟩)
          all_goals
            go_wp2_with fail
            go_roundw
            case rel => exact ⟨j + 1, by go_num, by omega, HP.out _⟩
            case measure => simp [intOf]; omega
        · have hF : upd (filled L k) k (upTo (fun _ => markT k) (L k).length (L k)) = filled L (k + 1) := by
            funext m
            rw [upTo_all]
            by_cases e : m = k
            · subst e; rw [upd_same]; simp [filled]
            · rw [upd_other _ _ _ _ e]
              unfold filled
              by_cases e2 : m < k
              · rw [if_pos e2, if_pos (by omega)]
              · rw [if_neg e2, if_neg (by omega)]
          have hjl : j = (L k).length := by omega
          subst hjl
          rw [hF] at hri
          clear hr q0 q1 q2 q6 hF
          go_wp2_with fail
          go_roundw
          case rel => exact ⟨k + 1, by go_num, by omega, hri⟩
          case measure => simp [intOf]; omega
    · have hk2 : k = 2 := by omega
      subst hk2
      go_wp2_with fail
      go_end0
      exact ⟨rfl, hr.out.1, hr.out.2⟩
end Go.Proofs.YtneekcggbnodnaaGreatDoor
