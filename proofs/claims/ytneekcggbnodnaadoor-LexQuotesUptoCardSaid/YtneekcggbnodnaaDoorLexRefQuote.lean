/- The reference's Quote answers as the program's. -/
import Derived.Test.YtneekcggbnodnaaDoorLexQuote
import Derived.Deep.AppendLies
import Derived.Deep.RegionLaw
import Derived.Maps.AppendAt
namespace Go.Proofs.YtneekcggbnodnaaDoor
open Go Go.RowKit Go.Lib
set_option linter.unusedSimpArgs false
set_option linter.unusedVariables false

/-- At each round's head: the bytes quoted so far, in a row of the call's own. -/
def RQ (N : Nat) (s : ByteArray) (w : World) (k : Nat) (v : Value) (wr : World) : Prop :=
  wr.ownsRow N 5 1 v (39 :: (s.data.toList.take k).flatMap quote1).length (byteCells (39 :: (s.data.toList.take k).flatMap quote1)) ∧ Below N w wr ∧ N ≤ wr.heap.size
theorem bytes_form {B : Nat} {w : World} {v : Value} {bs : List UInt8} (h : w.ownsRow B 5 1 v bs.length (byteCells bs)) (h0 : 0 < bs.length) : ∃ g c, v = .slice (some ⟨g, 0, none⟩) bs.length c ∧ B ≤ g := by
  rcases h.2 with ⟨_, h1⟩ | ⟨g, cap, cur, hv, hb, _⟩
  · omega
  · exact ⟨g, cap, hv, hb⟩
theorem bytes_back {B g c : Nat} {w : World} {bs : List UInt8} (h : w.ownsRow B 5 1 (.slice (some ⟨g, 0, none⟩) bs.length c) bs.length (byteCells bs)) :
    (convert 41 9 (.slice (some ⟨g, 0, none⟩) bs.length c)).run Tryd.prog w = .ok (.string ⟨bs.toArray⟩) w := by
  refine Go.run_convert_bytes_back (P := Tryd.prog) w 41 9 5 ⟨g, 0, none⟩ c bs Tryd.underlying41 Tryd.underlying5 Tryd.underlying9 (fun j hj => ?_)
  rw [Addr.add_lit, Nat.zero_add, World.ownsRow.cellAt h j (by omega)]
  simp [byteCells, hj]
theorem rq_grow {N : Nat} {s : ByteArray} {w wr w2 : World} {o : Obj} {k : Nat} {v v' : Value} {bs cs : List UInt8} (hbs : 39 :: (s.data.toList.take (k + 1)).flatMap quote1 = bs ++ cs)
    (hown : wr.ownsRow N 5 1 v bs.length (byteCells bs)) (hb : Below N w wr) (hN : N ≤ wr.heap.size) (h : w2.ownsRow N 5 1 v' (bs.length + cs.length) (byteCells bs ++ byteCells cs)) (hg : ((wr.alloc o)).grownBy w2 v.ownBlock) :
    RQ N s w (k + 1) v' w2 := by
  refine ⟨?_, ?_, ?_⟩
  · rw [hbs]
    simpa [byteCells] using h
  · exact (hb.alloc hN o).grown hg (by simp; omega) (fun k hk => (hown.lt k hk).1)
  · have := hg.size
    simp at this
    omega
set_option maxHeartbeats 8000000 in
set_option maxRecDepth 100000 in
theorem refQuote_any (s : ByteArray) (hs : s.size ≤ 35184372088000) (w : World) : Calls Tryd.prog 14 #[.string s] w fun e w' => e = .returned (.string ⟨(quoteL s.data.toList).toArray⟩) ∧ Below w.heap.size w w' := by
  obtain ⟨i0, hi, hz0, hz1, hz2⟩ := info_parts infoByte
  have hrel0 : Hid (RQ w.heap.size s w 0 (.slice (some ⟨w.heap.size, 0, none⟩) 1 1) (w.alloc (.cells #[.int .u8 39] 5))) := by
    refine ⟨?_, (Below.refl _ w).alloc (Nat.le_refl _) _, by simp⟩
    exact World.ownsRow_lit (base := w.heap.size) (e := 5) (size := 1) w #[.int .u8 39] 1 (Nat.le_refl _) (by decide) rfl
  go_enter Tryd.func14, Tryd.ntmps14
  go_wp2_with fail
  generalize hN : w.heap.size = N at hrel0 ⊢
  have HN := Lib.hid hN
  clear hN
  go_loopw [4, 5] (fun v i wr => ∃ k : Nat, i = .int .i64 k ∧ k ≤ s.size ∧ Hid (RQ N s w k v wr)) (fun _ i _ => s.size - (intOf i).toNat)
  case atStart => exact ⟨0, rfl, Nat.zero_le _, hrel0⟩
  case round =>
    obtain ⟨k, rfl, hk, hr⟩ := hrel
    obtain ⟨hown, hbel, hNw⟩ := hr.out
    have hql := quote_len (s.data.toList.take k)
    have hls : s.data.toList.length = s.size := by simp
    rw [List.length_take, hls] at hql
    by_cases hlt : k < s.size
    · have hts := take_snoc s.data.toList k (by omega)
      have hgd : s.data.toList.getD k 0 = s[k] := by rw [byte_at]; simp [List.getD_eq_getElem?_getD, List.getElem?_eq_getElem (show k < s.data.toList.length by omega)]
      rw [hgd] at hts
      have hlen : (39 :: (s.data.toList.take k).flatMap quote1).length + 8 ≤ 140737488355328 := by rw [List.length_cons]; omega
      have hbs2 : 39 :: (s.data.toList.take (k + 1)).flatMap quote1 = (39 :: (s.data.toList.take k).flatMap quote1) ++ quote1 s[k] := by rw [hts]; rfl
      generalize hbs : 39 :: (s.data.toList.take k).flatMap quote1 = bs at hown hlen hbs2
      generalize hc : s[k] = c at hbs2
      have HC := Lib.hid hc
      have HBS := Lib.hid hbs2
      have HO := Lib.hid hown
      have HBEL := Lib.hid hbel
      have HNW := Lib.hid hNw
      have hc2 := c.toNat_lt
      clear hbel hNw hts hgd hbs hbs2 hql hls hr hc
      have e0 : (s[k].toNat : Int) = (c.toNat : Int) := by rw [HC.out]
      have E0 := Lib.hid e0
      clear e0
      by_cases h1 : c = 39 ∨ c = 92
      · have hq : quote1 c = [92, c] := by unfold quote1; rw [if_pos h1]
        have HQ := Lib.hid hq
        have ht : ((s[k].toNat : Int) == 39) = true ∨ ((s[k].toNat : Int) == 39) = false ∧ ((s[k].toNat : Int) == 92) = true := by
          rw [HC.out]
          rcases h1 with h | h
          · exact .inl (byte_is 39 (by decide) h)
          · exact .inr ⟨byte_ne 39 (by decide) (by rw [h]; decide), byte_is 92 (by decide) h⟩
        clear h1 hq
        rcases ht with ht | ⟨ht, ht2⟩
        all_goals
          go_wp2_with (at_builtin; refine wpList_append_own_at _ rfl _ _ 41 rfl N 5 i0 (.int .u8 0) 1 1 Tryd.underlying41 hi hz0 hz1 hz2 rfl (by decide) _ _ _ rfl (HO.out.alloc _) ⟨wr.heap.size, 0, none⟩ 2 2 [.int .u8 92, .int .u8 (s[k].toNat : Int)] rfl rfl ?c1 ?c2 ?c3 ?c4 ?c5 ?_)
          case c1 =>
            intro j u hj
            match j, hj with
            | 0, hj => simp at hj; subst hj; simp [Addr.add]
            | 1, hj => simp at hj; subst hj; simp [Addr.add]
          case c2 => intro u hu; simp at hu; rcases hu with rfl | rfl <;> rfl
          case c3 => unfold maxLen; omega
          case c4 => omega
          case c5 => have := HNW.out; simp; omega
          intro v' w2 hown' hgrow _ hat
          have HR : Hid (RQ N s w (k + 1) v' w2) := Lib.hid (rq_grow (cs := [92, c]) (by rw [HBS.out, HQ.out]) HO.out HBEL.out HNW.out (by rw [E0.out] at hown'; simpa [byteCells] using hown') hgrow)
          clear hown' hgrow hat
          go_wp2_with fail
          go_roundw
          case rel => exact ⟨k + 1, by go_num, by omega, HR⟩
          case measure => simp [intOf]; omega
      · by_cases h2 : c.toNat < 32 ∨ 126 < c.toNat
        · have hq : quote1 c = [92, 120, hexDig (c.toNat / 16), hexDig (c.toNat % 16)] := by unfold quote1; rw [if_neg h1, if_pos h2]
          have HQ := Lib.hid hq
          have n39 : ((s[k].toNat : Int) == 39) = false := by rw [HC.out]; exact byte_ne 39 (by decide) (fun e => h1 (.inl e))
          have n92 : ((s[k].toNat : Int) == 92) = false := by rw [HC.out]; exact byte_ne 92 (by decide) (fun e => h1 (.inr e))
          have b1 : (s[k].toNat : Int) < 32 ∨ 32 ≤ (s[k].toNat : Int) ∧ 127 ≤ (s[k].toNat : Int) := by rw [HC.out]; omega
          clear h1 h2 hq
          obtain ⟨q, hqq⟩ : ∃ q : Nat, q = c.toNat / 16 := ⟨_, rfl⟩
          obtain ⟨r, hrr⟩ : ∃ r : Nat, r = c.toNat % 16 := ⟨_, rfl⟩
          have hq1 : q < digitsStr.size := by show q < 16; omega
          have hr1 : r < digitsStr.size := by show r < 16; omega
          have f1 : IntKind.u8.wrap ((s[k].toNat : Int) / 16) = (q : Int) := by rw [HC.out, IntKind.wrap_u8]; omega
          have f2 : ((s[k].toNat : Int)).tmod 16 = (r : Int) := by rw [HC.out, Int.tmod_eq_emod_of_nonneg (by omega)]; omega
          have g1 : (q : Int) < 16 := by omega
          have g2 : (0 : Int) ≤ (q : Int) := by omega
          have g3 : (r : Int) < 16 := by omega
          have g4 : (0 : Int) ≤ (r : Int) := by omega
          have HQQ : Hid (digitsStr[q]'hq1 = hexDig (c.toNat / 16) ∧ digitsStr[r]'hr1 = hexDig (c.toNat % 16)) := by
            subst hqq hrr
            exact ⟨dig_eq _ (by omega) _, dig_eq _ (by omega) _⟩
          have HO1 := HO.out
          have O2 : Hid (((wr.alloc (.cells #[.int .u8 92, .int .u8 120, .int .u8 ((digitsStr[q]'hq1).toNat : Int), .int .u8 ((digitsStr[r]'hr1).toNat : Int)] 5)).drew).ownsRow N 5 1 u4 bs.length (byteCells bs)) := HO1.alloc _
          have N2 : Hid (∀ (j : Nat) (u : Value), [Value.int .u8 92, .int .u8 120, .int .u8 ((digitsStr[q]'hq1).toNat : Int), .int .u8 ((digitsStr[r]'hr1).toNat : Int)][j]? = some u → ((wr.alloc (.cells #[.int .u8 92, .int .u8 120, .int .u8 ((digitsStr[q]'hq1).toNat : Int), .int .u8 ((digitsStr[r]'hr1).toNat : Int)] 5)).drew).cell? ((⟨wr.heap.size, 0, none⟩ : Addr).add j) = some u) := by
            intro j u hj
            have hl : (wr.alloc (.cells #[.int .u8 92, .int .u8 120, .int .u8 ((digitsStr[q]'hq1).toNat : Int), .int .u8 ((digitsStr[r]'hr1).toNat : Int)] 5)).heap[wr.heap.size]? = some (.cells #[.int .u8 92, .int .u8 120, .int .u8 ((digitsStr[q]'hq1).toNat : Int), .int .u8 ((digitsStr[r]'hr1).toNat : Int)] 5 (0, 0)) := heap_alloc_new wr _
            have := Lib.cell_of_heap hl j
            rw [Addr.add_lit]
            simp only [Nat.zero_add]
            refine Eq.trans this ?_
            rw [← hj]
            simp
          have N3 : Hid (∀ u ∈ [Value.int .u8 92, .int .u8 120, .int .u8 ((digitsStr[q]'hq1).toNat : Int), .int .u8 ((digitsStr[r]'hr1).toNat : Int)], u.oneCell' = true) := by
            intro u hu
            simp only [List.mem_cons, List.not_mem_nil, or_false] at hu
            rcases hu with rfl | rfl | rfl | rfl <;> rfl
          have L1 : Hid (bs.length + 4 ≤ maxLen) := by unfold Hid maxLen; omega
          have L2 : Hid ((bs.length + 4) * 1 ≤ 140737488355328) := by unfold Hid; omega
          have L3 : Hid (N ≤ ((wr.alloc (.cells #[.int .u8 92, .int .u8 120, .int .u8 ((digitsStr[q]'hq1).toNat : Int), .int .u8 ((digitsStr[r]'hr1).toNat : Int)] 5)).drew).heap.size) := by unfold Hid; simp; have := HNW.out; omega
          have L4 : Hid (((wr.alloc (.cells #[.int .u8 92, .int .u8 120, .int .u8 ((digitsStr[q]'hq1).toNat : Int), .int .u8 ((digitsStr[r]'hr1).toNat : Int)] 5)).drew).heap.size = wr.heap.size + 1) := by unfold Hid; simp
          have RQ4 : Hid (∀ (g cap : Nat) (w1 : World), w1.ownsRow N 5 1 (.slice (some ⟨g, 0, none⟩) (bs.length + 4) cap) (bs.length + 4) (byteCells bs ++ [Value.int .u8 92, .int .u8 120, .int .u8 ((digitsStr[q]'hq1).toNat : Int), .int .u8 ((digitsStr[r]'hr1).toNat : Int)]) →
              ((wr.alloc (.cells #[.int .u8 92, .int .u8 120, .int .u8 ((digitsStr[q]'hq1).toNat : Int), .int .u8 ((digitsStr[r]'hr1).toNat : Int)] 5)).drew).grownBy w1 (Value.ownBlock u4) → Hid (RQ N s w (k + 1) (.slice (some ⟨g, 0, none⟩) (bs.length + 4) cap) w1)) := by
            intro g cap w1 ho hg
            refine rq_grow (o := .cells #[.int .u8 92, .int .u8 120, .int .u8 ((digitsStr[q]'hq1).toNat : Int), .int .u8 ((digitsStr[r]'hr1).toNat : Int)] 5) (cs := [92, 120, hexDig (c.toNat / 16), hexDig (c.toNat % 16)]) (by rw [HBS.out, HQ.out]) HO1 HBEL.out HNW.out ?_ ⟨hg.os, hg.tape, hg.output, hg.size, hg.block⟩
            have e : byteCells [92, 120, hexDig (c.toNat / 16), hexDig (c.toNat % 16)] = [Value.int .u8 92, .int .u8 120, .int .u8 ((digitsStr[q]'hq1).toNat : Int), .int .u8 ((digitsStr[r]'hr1).toNat : Int)] := by
              rw [HQQ.out.1, HQQ.out.2]; rfl
            rw [e]
            exact ho
          clear HO1 hqq hrr
          rcases b1 with b1 | ⟨b1, b2⟩
          all_goals
            go_wp2_with fail
            go_region_law (refine step_append_lies _ rfl (.tmp 17) (.tmp 26) 41 rfl N 5 i0 _ 1 1 Tryd.underlying41 hi hz0 hz1 hz2 rfl (by decide) u4 bs.length (byteCells bs) (by simp [Act.eval, Act.put]) O2.out ⟨wr.heap.size, 0, none⟩ 4 4 [.int .u8 92, .int .u8 120, .int .u8 ((digitsStr[q]'hq1).toNat : Int), .int .u8 ((digitsStr[r]'hr1).toNat : Int)] (by simp [Act.eval, Act.put]) rfl N2.out N3.out (by decide) L1.out L2.out L3.out (wr.heap.size + 1) L4.out ?_; intro g cap w1 ho hg hat hlt; have HR := RQ4.out g cap w1 ho hg; clear ho hg hat hlt)
            all_goals
              go_wp2_with fail
              go_roundw
              case rel => exact ⟨k + 1, by go_num, by omega, HR⟩
              case measure => simp [intOf]; omega
        · have hq : quote1 c = [c] := by unfold quote1; rw [if_neg h1, if_neg h2]
          have HQ := Lib.hid hq
          have n39 : ((s[k].toNat : Int) == 39) = false := by rw [HC.out]; exact byte_ne 39 (by decide) (fun e => h1 (.inl e))
          have n92 : ((s[k].toNat : Int) == 92) = false := by rw [HC.out]; exact byte_ne 92 (by decide) (fun e => h1 (.inr e))
          have b1 : 32 ≤ (s[k].toNat : Int) := by rw [HC.out]; omega
          have b2 : (s[k].toNat : Int) < 127 := by rw [HC.out]; omega
          clear h1 h2 hq
          go_wp2_with (at_builtin; refine wpList_append_own_at _ rfl _ _ 41 rfl N 5 i0 (.int .u8 0) 1 1 Tryd.underlying41 hi hz0 hz1 hz2 rfl (by decide) _ _ _ rfl (HO.out.alloc _) ⟨wr.heap.size, 0, none⟩ 1 1 [.int .u8 (s[k].toNat : Int)] rfl rfl ?c1 ?c2 ?c3 ?c4 ?c5 ?_)
          case c1 =>
            intro j u hj
            match j, hj with
            | 0, hj => simp at hj; subst hj; simp [Addr.add]
          case c2 => intro u hu; simp at hu; subst hu; rfl
          case c3 => unfold maxLen; omega
          case c4 => omega
          case c5 => have := HNW.out; simp; omega
          intro v' w2 hown' hgrow _ hat
          have HR : Hid (RQ N s w (k + 1) v' w2) := Lib.hid (rq_grow (cs := [c]) (by rw [HBS.out, HQ.out]) HO.out HBEL.out HNW.out (by rw [E0.out] at hown'; simpa [byteCells] using hown') hgrow)
          clear hown' hgrow hat
          go_wp2_with fail
          go_roundw
          case rel => exact ⟨k + 1, by go_num, by omega, HR⟩
          case measure => simp [intOf]; omega
    · have hk2 : k = s.size := by omega
      subst hk2
      have hbs2 : 39 :: (s.data.toList.take s.size).flatMap quote1 ++ [39] = quoteL s.data.toList := by
        rw [List.take_of_length_le (by omega)]; rfl
      have hlen : (39 :: (s.data.toList.take s.size).flatMap quote1).length + 8 ≤ 140737488355328 := by rw [List.length_cons]; omega
      generalize hbs : 39 :: (s.data.toList.take s.size).flatMap quote1 = bs at hown hbs2 hlen
      have HBS := Lib.hid hbs2
      have HO := Lib.hid hown
      have HBEL := Lib.hid hbel
      have HNW := Lib.hid hNw
      clear hbel hNw hbs hbs2 hql hls hr
      go_wp2_with (at_builtin; refine wpList_append_own_at _ rfl _ _ 41 rfl N 5 i0 (.int .u8 0) 1 1 Tryd.underlying41 hi hz0 hz1 hz2 rfl (by decide) _ _ _ rfl (HO.out.alloc _) ⟨wr.heap.size, 0, none⟩ 1 1 [.int .u8 39] rfl rfl ?c1 ?c2 ?c3 ?c4 ?c5 ?_)
      case c1 =>
        intro j u hj
        match j, hj with
        | 0, hj => simp at hj; subst hj; simp [Addr.add]
      case c2 => intro u hu; simp at hu; subst hu; rfl
      case c3 => unfold maxLen; omega
      case c4 => omega
      case c5 => have := HNW.out; simp; omega
      intro v' w2 hown' hgrow _ hat
      have ho2 : w2.ownsRow N 5 1 v' (quoteL s.data.toList).length (byteCells (quoteL s.data.toList)) := by
        rw [← HBS.out]
        simpa [byteCells] using hown'
      have HB2 : Hid (Below N w w2) := Lib.hid ((HBEL.out.alloc HNW.out _).grown hgrow (by have := HNW.out; simp; omega) (fun k hk => (HO.out.lt k hk).1))
      obtain ⟨g, c, rfl, _⟩ := bytes_form ho2 (by simp [quoteL])
      have hcv := bytes_back ho2
      clear hown' hgrow hat ho2
      go_wp2_with fail
      go_ret
      exact ⟨rfl, by rw [HN.out]; exact HB2.out⟩
end Go.Proofs.YtneekcggbnodnaaDoor
