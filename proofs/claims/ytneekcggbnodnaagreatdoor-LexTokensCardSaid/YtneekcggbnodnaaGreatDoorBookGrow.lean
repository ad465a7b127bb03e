/- A Book that holds two lists of tokens; each grows by three of its mark. -/
import Derived.Test.YtneekcggbnodnaaGreatDoorBookFill
namespace Go.Proofs.YtneekcggbnodnaaGreatDoor
open Go Go.RowKit Go.Lib
set_option linter.unusedSimpArgs false
set_option linter.unusedVariables false

def updV (V : Nat → Value) (i : Nat) (x : Value) : Nat → Value := fun j => if j = i then x else V j
theorem updV_same (V : Nat → Value) (i : Nat) (x : Value) : updV V i x i = x := if_pos rfl
theorem updV_other (V : Nat → Value) (i j : Nat) (x : Value) (h : j ≠ i) : updV V i x j = V j := if_neg h
theorem grown_old {w w1 : World} {o1 o2 : Obj} {r : Option Nat} (hg : (((w.alloc o1).alloc o2).drew).grownBy w1 r) {j : Nat} (hj : j < w.heap.size) (hr : some j ≠ r) : w1.heap[j]? = w.heap[j]? := by
  rw [hg.block j (by simp; omega) hr]
  exact (Lib.alloc_old (w.alloc o1) o2 j (by simp; omega)).trans (Lib.alloc_old w o1 j hj)
/-- Behind an append to list k, and the store. -/
theorem Two.grow {B b g cap k gn cn : Nat} {V : Nat → Value} {L : Nat → List Tk} {w w1 : World} {o1 o2 : Obj} {t : Tk} (h : Two B b g cap V L w) (hB : B ≤ w.heap.size) (hk : k < 2)
    (ho : w1.ownsRow B 71 4 (.slice (some ⟨gn, 0, none⟩) ((L k).length + 1) cn) ((L k).length + 1) ((L k).flatMap Tk.cells ++ t.cells)) (hg : (((w.alloc o1).alloc o2).drew).grownBy w1 (V k).ownBlock) (hat : (V k).ownBlock = some gn ∨ gn = w.heap.size + 2) :
    w1.cell? ⟨g, k * 2, none⟩ = some (V k) ∧ w1.frozen? ⟨g, k * 2, none⟩ = false ∧
    Hid (Two B b g cap (updV V k (.slice (some ⟨gn, 0, none⟩) ((L k).length + 1) cn)) (upd L k (L k ++ [t])) (w1.setCell ⟨g, k * 2, none⟩ (.slice (some ⟨gn, 0, none⟩) ((L k).length + 1) cn)) ∧
      Below B w (w1.setCell ⟨g, k * 2, none⟩ (.slice (some ⟨gn, 0, none⟩) ((L k).length + 1) cn))) := by
  obtain ⟨hBg, hgl⟩ := h.glt
  obtain ⟨n1, n2⟩ := h.ng k hk
  have hbl := h.bk.lt
  have hgb : g ≠ b := by
    have := h.bk.ne
    simpa [Value.ownBlock] using this
  have hgs : w1.heap[g]? = w.heap[g]? := grown_old hg hgl (fun e => n1 e.symm)
  have hbs : w1.heap[b]? = w.heap[b]? := grown_old hg hbl (fun e => n2 e.symm)
  obtain ⟨c0, _, f0⟩ := h.held k hk
  have hgn : gn ≠ g ∧ gn ≠ b := by
    rcases hat with e | e
    · rw [e] at n1 n2
      exact ⟨fun q => n1 (by rw [q]), fun q => n2 (by rw [q])⟩
    · omega
  have hfar : ∀ j, j < 2 → j ≠ k → (V j).ownBlock ≠ some gn := by
    intro j hj hjk q
    rcases hat with e | e
    · rcases h.nn j k hj hk hjk with q2 | q2
      · rw [q] at q2; cases q2
      · rw [q, e] at q2; exact q2 rfl
    · have := (World.ownsRow.lt (h.tk j hj) gn q).2
      omega
  have hrow : w1.ownsRow B 90 2 (.slice (some ⟨g, 0, none⟩) 2 cap) 2 [V 0, .int .i64 0, V 1, .int .i64 1] := by
    refine ⟨h.bk.own.1, ?_⟩
    rcases h.bk.own.2 with hn | ⟨g', cap', cur, e, hbg, hgg, rest⟩
    · exact .inl hn
    · refine .inr ⟨g', cap', cur, e, hbg, ?_, rest⟩
      injection e with e1 _ _
      injection e1 with e1
      injection e1 with e1
      subst e1
      exact hgs.trans hgg
  have hst := (World.ownsRow.stored hrow (k * 2) (.slice (some ⟨gn, 0, none⟩) ((L k).length + 1) cn)).1
  have hV2 : ([V 0, .int .i64 0, V 1, .int .i64 1] : List Value).set (k * 2) (.slice (some ⟨gn, 0, none⟩) ((L k).length + 1) cn) = [updV V k (.slice (some ⟨gn, 0, none⟩) ((L k).length + 1) cn) 0, .int .i64 0, updV V k (.slice (some ⟨gn, 0, none⟩) ((L k).length + 1) cn) 1, .int .i64 1] := by
    match k, hk with
    | 0, _ => rfl
    | 1, _ => rfl
  rw [hV2] at hst
  refine ⟨?_, ?_, ⟨⟨h.bk.base, ?_, hst, h.bk.ne⟩, fun i hi => ?_, fun i hi => ?_, fun i j hi hj hij => ?_⟩, ?_⟩
  · rw [World.cell?_of_block hgs]; exact c0
  · exact World.ownsRow.frozenAt hrow _
  · rw [Below.heap_setCell _ _ _ _ (fun e => hgb e.symm), hbs]
    exact h.bk.lies
  · by_cases e : i = k
    · subst e
      rw [updV_same, upd_same]
      refine ownsRow_setCell_other ?_ (by simp only [Value.ownBlock, ne_eq, Option.some.injEq]; exact hgn.1) _
      rw [List.length_append, List.flatMap_append]
      simpa using ho
    · rw [updV_other _ _ _ _ e, upd_other _ _ _ _ e]
      refine ownsRow_setCell_other ?_ (h.ng i hi).1 _
      exact World.ownsRow.kept (w := ((w.alloc o1).alloc o2).drew) (World.ownsRow.alloc (World.ownsRow.alloc (h.tk i hi) o1) o2) hg (h.nn i k hi hk e)
  · by_cases e : i = k
    · subst e
      rw [updV_same]
      simp only [Value.ownBlock, ne_eq, Option.some.injEq]
      exact hgn
    · rw [updV_other _ _ _ _ e]
      exact h.ng i hi
  · by_cases e : i = k
    · subst e
      rw [updV_same, updV_other _ _ _ _ (fun q => hij q.symm)]
      exact .inr (fun q => hfar j hj (fun q => hij q.symm) q.symm)
    · rw [updV_other _ _ _ _ e]
      by_cases e2 : j = k
      · subst e2
        rw [updV_same]
        exact .inr (hfar i hi e)
      · rw [updV_other _ _ _ _ e2]
        exact h.nn i j hi hj hij
  · refine Below.setCell ?_ (p := ⟨g, k * 2, none⟩) hBg _
    exact ((((Below.refl B w).alloc hB o1).alloc (by simp; omega) o2).drew).grown hg (by simp; omega) (fun j hj => (World.ownsRow.lt (h.tk k hk) j hj).1)
def grown (L : Nat → List Tk) (k : Nat) : Nat → List Tk := fun j => if j < k then L j ++ List.replicate 3 (markT j) else L j
def GrowRel (B b g cap : Nat) (L : Nat → List Tk) (w wr : World) : Prop := ∃ V, Below B w wr ∧ B ≤ wr.heap.size ∧ Two B b g cap V L wr
set_option maxHeartbeats 4000000 in
set_option maxRecDepth 100000 in
theorem grow_any (B b g cap : Nat) (V : Nat → Value) (L : Nat → List Tk) (w : World) (hBw : B ≤ w.heap.size) (h : Two B b g cap V L w) (hL : ∀ i, i < 2 → (L i).length ≤ 1000000) :
    Calls Tryz.prog 50 #[.pointer (some ⟨b, 0, none⟩)] w fun e w' => e = .returned (.tuple #[]) ∧ GrowRel B b g cap (grown L 2) w w' := by
  obtain ⟨i0, hi, hz0, hz1, hz2⟩ := info_parts infoTok
  have hrel0 : Hid (GrowRel B b g cap (grown L 0) w w) := by
    refine ⟨V, Below.refl _ _, hBw, ?_⟩
    have : grown L 0 = L := by funext j; simp [grown]
    rw [this]; exact h
  have c6 := h.book
  clear h
  have HL := Lib.hid hL
  clear hL
  go_enter Tryz.func50, Tryz.ntmps50
  go_wp2_with fail
  go_loopw [10] (fun i wr => ∃ k : Nat, i = .int .i64 k ∧ k ≤ 2 ∧ Hid (GrowRel B b g cap (grown L k) w wr)) (fun i _ => 2 - (intOf i).toNat)
  case atStart => exact ⟨0, rfl, by omega, hrel0⟩
  case round =>
    obtain ⟨k, rfl, hk, hr⟩ := hrel
    by_cases hlt : k < 2
    · have hll := HL.out k hlt
      have q6 : wr.cell? ⟨b, 6, none⟩ = some (.slice (some ⟨g, 0, none⟩) 2 cap) := by
        obtain ⟨_, _, _, h⟩ := hr.out
        exact h.book
      have m1 : (0 : Int) ≤ (k : Int) := by omega
      have m2 : (k : Int) < 2 := by omega
      clear c6
      go_wp2_with fail
      go_loopw [4] (fun i wi => ∃ j : Nat, i = .int .i64 j ∧ j ≤ 3 ∧ Hid (GrowRel B b g cap (upd (grown L k) k (L k ++ List.replicate j (markT k))) w wi)) (fun i _ => 3 - (intOf i).toNat)
      case atStart =>
        refine ⟨0, rfl, by omega, ?_⟩
        have : upd (grown L k) k (L k ++ List.replicate 0 (markT k)) = grown L k := by
          funext j
          by_cases e : j = k
          · subst e; rw [upd_same]; simp [grown]
          · rw [upd_other _ _ _ _ e]
        rw [this]
        exact hr
      case round =>
        obtain ⟨j, rfl, hj, hri⟩ := hrel
        by_cases hlj : j < 3
        · obtain ⟨V1, hb1, hBw1, h1⟩ := hri.out
          obtain ⟨r0, r1, _⟩ := h1.held k hlt
          have ht := h1.tk k hlt
          rw [upd_same] at ht
          generalize hl1 : L k ++ List.replicate j (markT k) = l1 at ht h1
          obtain ⟨a, c, hv⟩ := ht.form
          rw [hv] at r0 ht
          have glt := h1.glt.2
          have hlen : l1.length ≤ 1000003 := by
            rw [← hl1, List.length_append, List.length_replicate]; omega
          have M := mark_any k (by omega)
          simp only [markV, markO] at M
          have HM := Lib.hid M
          have O2 : Hid ((((wr.alloc (markO k)).alloc (markO k)).drew).ownsRow B 71 4 (.slice a l1.length c) l1.length (l1.flatMap Tk.cells)) := (World.ownsRow.alloc (World.ownsRow.alloc ht (markO k)) (markO k))
          have N2 : Hid (∀ (j : Nat) (u : Value), (Tk.cells (markT k))[j]? = some u → (((wr.alloc (markO k)).alloc (markO k)).drew).cell? ((⟨wr.heap.size + 1, 0, none⟩ : Addr).add j) = some u) := by
            intro j u hj
            have hl : ((wr.alloc (markO k)).alloc (markO k)).heap[wr.heap.size + 1]? = some (markO k) := by
              have := heap_alloc_new (wr.alloc (markO k)) (markO k)
              simpa using this
            have := Lib.cell_of_heap hl j
            rw [Addr.add_lit]
            simp only [Nat.zero_add]
            refine Eq.trans this ?_
            rw [← hj]
            simp [Tk.cells, markT]
          have N3 : Hid (∀ u ∈ Tk.cells (markT k), u.oneCell' = true) := by
            intro u hu
            simp only [Tk.cells, List.mem_cons, List.mem_nil_iff, or_false, List.not_mem_nil] at hu
            rcases hu with rfl | rfl | rfl | rfl <;> rfl
          have L1 : Hid (l1.length + 1 ≤ maxLen) := by unfold Hid maxLen; omega
          have L2 : Hid ((l1.length + 1) * 40 ≤ 140737488355328) := by unfold Hid; omega
          have L3 : Hid (B ≤ (((wr.alloc (markO k)).alloc (markO k)).drew).heap.size) := by unfold Hid; simp; omega
          have L4 : Hid ((((wr.alloc (markO k)).alloc (markO k)).drew).heap.size = wr.heap.size + 2) := by unfold Hid; simp
          have HG : Hid (∀ gn cn w1, w1.ownsRow B 71 4 (.slice (some ⟨gn, 0, none⟩) (l1.length + 1) cn) (l1.length + 1) (l1.flatMap Tk.cells ++ (markT k).cells) → (((wr.alloc (markO k)).alloc (markO k)).drew).grownBy w1 (Value.slice a l1.length c).ownBlock → ((Value.slice a l1.length c).ownBlock = some gn ∨ gn = wr.heap.size + 2) →
              w1.cell? ⟨g, k * 2, none⟩ = some (.slice a l1.length c) ∧ w1.frozen? ⟨g, k * 2, none⟩ = false ∧ Hid (GrowRel B b g cap (upd (grown L k) k (L k ++ List.replicate (j + 1) (markT k))) w (w1.setCell ⟨g, k * 2, none⟩ (.slice (some ⟨gn, 0, none⟩) (l1.length + 1) cn)))) := by
            intro gn cn w1 ho hg hat
            rw [← hv] at hg hat
            have := h1.grow (t := markT k) (gn := gn) (cn := cn) hBw1 hlt (by rw [upd_same]; exact ho) hg hat
            obtain ⟨p1, p2, p3⟩ := this
            rw [upd_same] at p3
            refine ⟨by rw [p1, hv], p2, ?_⟩
            have e1 : upd (upd (grown L k) k l1) k (l1 ++ [markT k]) = upd (grown L k) k (L k ++ List.replicate (j + 1) (markT k)) := by
              funext m
              by_cases e : m = k
              · subst e; rw [upd_same, upd_same, ← hl1, List.append_assoc, List.replicate_succ']
              · rw [upd_other _ _ _ _ e, upd_other _ _ _ _ e, upd_other _ _ _ _ e]
            rw [e1] at p3
            refine ⟨_, hb1.trans p3.out.2, Nat.le_trans hBw1 p3.out.2.size, p3.out.1⟩
          have n1 : (0 : Int) ≤ (j : Int) := by omega
          have n2 : (j : Int) < 3 := by omega
          clear M ht h1 hb1 hBw1 hv hr q6 hl1 hri
          simp only [markO] at O2 N2 L3 L4 HG
          go_wp2_with fail
          go_region_law (first
            | (refine step_append_lies _ rfl (.tmp 27) (.tmp 33) 22 rfl B 71 i0 _ 4 40 Tryz.underlying22 hi hz0 hz1 hz2 rfl (by decide) (.slice a l1.length c) l1.length (l1.flatMap Tk.cells) (by simp [Act.eval, Act.put]) O2.out ⟨wr.heap.size + 1, 0, none⟩ 1 1 (Tk.cells (markT k)) (by simp [Act.eval, Act.put]) rfl N2.out N3.out (by decide) L1.out L2.out L3.out (wr.heap.size + 2) L4.out ?_; intro gn cn w1 ho hg hat hlt2; obtain ⟨e0, k0, Z⟩ := HG.out gn cn w1 ho hg hat; clear ho hg hat hlt2)
            | (go_simp; go_at_call 137; refine (HM.out _).mono ?_; rintro e w3 ⟨rfl, rfl⟩))
          all_goals
            go_wp2_with fail
            go_roundw
            case rel => exact ⟨j + 1, by go_num, by omega, Z⟩
            case measure => simp [intOf]; omega
        · have hF : upd (grown L k) k (L k ++ List.replicate 3 (markT k)) = grown L (k + 1) := by
            funext m
            by_cases e : m = k
            · subst e; rw [upd_same]; simp [grown]
            · rw [upd_other _ _ _ _ e]
              unfold grown
              by_cases e2 : m < k
              · rw [if_pos e2, if_pos (by omega)]
              · rw [if_neg e2, if_neg (by omega)]
          have hjl : j = 3 := by omega
          subst hjl
          rw [hF] at hri
          clear hr q6 hF
          go_wp2_with fail
          go_roundw
          case rel => exact ⟨k + 1, by go_num, by omega, hri⟩
          case measure => simp [intOf]; omega
    · have hk2 : k = 2 := by omega
      subst hk2
      go_wp2_with fail
      go_end0
      exact ⟨rfl, hr.out⟩
end Go.Proofs.YtneekcggbnodnaaGreatDoor
