/- Quote: a text as it stands in a program. -/
import Derived.Test.YtneekcggbnodnaaGreatDoorLexPlain
import Derived.Test.YtneekcggbnodnaaGreatDoorLexNext
import Derived.Lib.ConvBytes
namespace Go.Proofs.YtneekcggbnodnaaGreatDoor
open Go Go.RowKit Go.Lib
set_option linter.unusedSimpArgs false
set_option linter.unusedVariables false

/-- At each round's head: the builder at N holds the bytes quoted so far; the block K holds the text's bytes. -/
def QRel (N K : Nat) (s : ByteArray) (w : World) (k : Nat) (wr : World) : Prop :=
  ∃ v, Bld N N v (39 :: (s.data.toList.take k).flatMap quote1) wr ∧ v.ownBlock ≠ some K ∧ K < wr.heap.size ∧ K ≠ N ∧ Below N w wr ∧ N ≤ wr.heap.size ∧ (∀ j, j < s.size → wr.cell? ⟨K, j, none⟩ = some (.int .u8 (s.data.toList.getD j 0).toNat))
theorem cell_block {w w' : World} {K j : Nat} (h : w'.heap[K]? = w.heap[K]?) : w'.cell? ⟨K, j, none⟩ = w.cell? ⟨K, j, none⟩ := by
  simp only [World.cell?, h]
theorem q_keep {N K : Nat} {s : ByteArray} {w wr w2 : World} {v v2 : Value} {bs cs : List UInt8} (hb : Bld N N v bs wr) (hb2 : Bld N N v2 cs w2) (fr : Fr N v v2 wr w2) (hv : v.ownBlock ≠ some K) (hK : K < wr.heap.size) (hKN : K ≠ N) (hbel : Below N w wr) (hNw : N ≤ wr.heap.size) (hc : ∀ j, j < s.size → wr.cell? ⟨K, j, none⟩ = some (.int .u8 (s.data.toList.getD j 0).toNat)) :
    v2.ownBlock ≠ some K ∧ K < w2.heap.size ∧ Below N w w2 ∧ N ≤ w2.heap.size ∧ (∀ j, j < s.size → w2.cell? ⟨K, j, none⟩ = some (.int .u8 (s.data.toList.getD j 0).toNat)) := by
  refine ⟨?_, Nat.lt_of_lt_of_le hK fr.size, hbel.trans (fr.below hb), Nat.le_trans hNw fr.size, fun j hj => ?_⟩
  · rcases fr.row with e | ⟨g, e, hg⟩
    · rw [e]; exact hv
    · rw [e]; intro c; have := Option.some.inj c; omega
  · rw [cell_block (fr.block K hK hKN (fun e => hv e.symm))]
    exact hc j hj
theorem take_snoc (l : List UInt8) (k : Nat) (h : k < l.length) : (l.take (k + 1)).flatMap quote1 = (l.take k).flatMap quote1 ++ quote1 (l.getD k 0) := by
  rw [List.take_succ_eq_append_getElem h, List.flatMap_append]
  simp [List.getD_eq_getElem?_getD, List.getElem?_eq_getElem h]
theorem quote_len (l : List UInt8) : (l.flatMap quote1).length ≤ 4 * l.length := by
  induction l with
  | nil => simp
  | cons c r ih => rw [List.flatMap_cons, List.length_append, List.length_cons]; have := (quote1_len c).2; omega
def digitsStr : ByteArray := ⟨#[48, 49, 50, 51, 52, 53, 54, 55, 56, 57, 97, 98, 99, 100, 101, 102]⟩
theorem dig_at : ∀ n : Fin 16, digitsStr[n.val]'(by have := n.isLt; exact this) = hexDig n.val := by decide
theorem dig_eq (n : Nat) (h : n < 16) (hn : n < digitsStr.size) : digitsStr[n]'hn = hexDig n := dig_at ⟨n, h⟩
set_option maxHeartbeats 4000000 in
set_option maxRecDepth 100000 in
theorem quote_any (s : ByteArray) (hs : s.size ≤ 35184372088000) (w : World) : Calls Tryz.prog 113 #[.string s] w fun e w' => e = .returned (.string ⟨(quoteL s.data.toList).toArray⟩) ∧ Below w.heap.size w w' := by
  have hw0 := writeByte w.heap.size w.heap.size _ [] 39 _ (bld_new w) (by simp) (by simp)
  rw [show (((39 : UInt8).toNat : Nat) : Int) = 39 from rfl] at hw0
  have W0 := Lib.hid hw0
  have hconv := fun W => Go.Lib.run_convert_string_bytes (P := Tryz.prog) W 9 351 5 s (u := .string) Tryz.underlying9 Tryz.underlying351 Tryz.underlying5
  clear hw0
  go_enter Tryz.func113, Tryz.ntmps113
  go_wp2_with fail
  refine W0.out.mono ?_
  rintro e w1 ⟨rfl, v1, hb1, fr1⟩
  have hconv1 := hconv w1
  have hcells := bytesWorld_cell w1 5 s
  have hB := bytesW_below w1 5 s
  have hsz : w1.heap.size < (bytesWorld w1 5 s).heap.size := by rw [Lib.bytesWorld_size]; omega
  have hN1 : w.heap.size < w1.heap.size := hb1.lt
  have hv1 : v1.ownBlock ≠ some w1.heap.size := fun e => by have := (hb1.own.lt _ e).2; omega
  have hrel0 : Hid (QRel w.heap.size w1.heap.size s w 0 (bytesWorld w1 5 s)) := by
    refine ⟨v1, hb1.below hB, hv1, hsz, by omega, ?_, by omega, hcells⟩
    exact (((Below.refl _ w).alloc (Nat.le_refl _) _).trans (fr1.below (bld_new w))).trans (hB.mono (by omega))
  generalize bytesWorld w1 5 s = W at hconv1 hrel0
  generalize hC : grownCap w1 s.size 0 5 = C at hconv1
  generalize hK : w1.heap.size = K at hconv1 hrel0
  generalize hN : w.heap.size = N at hrel0 ⊢
  have HKN := Lib.hid (⟨hK, hN⟩ : _ ∧ _)
  clear hcells hB hsz hN1 hv1 hb1 fr1 hC hK hN hconv W0
  go_wp2_with fail
  clear hconv1
  go_loopw [10] (fun i wr => ∃ k : Nat, i = .int .i64 k ∧ k ≤ s.size ∧ Hid (QRel N K s w k wr)) (fun i _ => s.size - (intOf i).toNat)
  case atStart => exact ⟨0, rfl, Nat.zero_le _, hrel0⟩
  case round =>
    obtain ⟨k, rfl, hk, hr⟩ := hrel
    obtain ⟨v, hb, hv, hK, hKNe, hbel, hNw, hc⟩ := hr.out
    have hql := quote_len (s.data.toList.take k)
    have hls : s.data.toList.length = s.size := by simp
    rw [List.length_take, hls] at hql
    by_cases hlt : k < s.size
    · have hcell := hc k hlt
      have hts := take_snoc s.data.toList k (by omega)
      generalize s.data.toList.getD k 0 = c at hcell hts
      have hlen : (39 :: (s.data.toList.take k).flatMap quote1).length + 8 ≤ 140737488355328 := by rw [List.length_cons]; omega
      generalize hbs : 39 :: (s.data.toList.take k).flatMap quote1 = bs at hb hlen
      have hbs2 : 39 :: (s.data.toList.take (k + 1)).flatMap quote1 = bs ++ quote1 c := by rw [hts, ← hbs]; rfl
      have HBS := Lib.hid hbs2
      have HB := Lib.hid hb
      have HV := Lib.hid hv
      have HK := Lib.hid hK
      have HKNE := Lib.hid hKNe
      have HBEL := Lib.hid hbel
      have HNW := Lib.hid hNw
      have HC := Lib.hid hc
      have HLEN := Lib.hid hlen
      clear hb hv hK hKNe hbel hNw hc hts hbs hbs2 hlen hql hls hr
      have hc2 := c.toNat_lt
      by_cases h1 : c = 39 ∨ c = 92
      · have hq : quote1 c = [92, c] := by unfold quote1; rw [if_pos h1]
        have HQ := Lib.hid hq
        have wb := writeByte N N v bs 92 wr HB.out (by have := HLEN.out; omega) HNW.out
        rw [show (((92 : UInt8).toNat : Nat) : Int) = 92 from rfl] at wb
        have WB := Lib.hid wb
        have H1 := Lib.hid h1
        clear h1 hq wb
        have ht : ((c.toNat : Int) == 39) = true ∨ ((c.toNat : Int) == 39) = false ∧ ((c.toNat : Int) == 92) = true := by
          rcases H1.out with h | h
          · exact .inl (byte_is 39 (by decide) h)
          · exact .inr ⟨byte_ne 39 (by decide) (by rw [h]; decide), byte_is 92 (by decide) h⟩
        rcases ht with ht | ⟨ht, ht2⟩
        all_goals
          go_wp2_with fail
          refine WB.out.mono ?_
          rintro e w2 ⟨rfl, v2, hb2, fr2⟩
          obtain ⟨r1, r2, r3, r4, r5⟩ := q_keep HB.out hb2 fr2 HV.out HK.out HKNE.out HBEL.out HNW.out HC.out
          have WB2 := Lib.hid (writeByte N N v2 (bs ++ [92]) c w2 hb2 (by have := HLEN.out; simp; omega) r4)
          have HB2 := Lib.hid hb2
          have R1 := Lib.hid r1
          have R2 := Lib.hid r2
          have R3 := Lib.hid r3
          have R4 := Lib.hid r4
          have R5 := Lib.hid r5
          clear hb2 fr2 r1 r2 r3 r4 r5
          go_wp2_with fail
          refine WB2.out.mono ?_
          rintro e w3 ⟨rfl, v3, hb3, fr3⟩
          go_wp2_with fail
          go_roundw
          case rel =>
            obtain ⟨r1, r2, r3, r4, r5⟩ := q_keep HB2.out hb3 fr3 R1.out R2.out HKNE.out R3.out R4.out R5.out
            exact ⟨k + 1, by go_num, by omega, v3, by rw [HBS.out, HQ.out]; simpa using hb3, r1, r2, HKNE.out, r3, r4, r5⟩
          case measure => simp [intOf]; omega
      · by_cases h2 : c.toNat < 32 ∨ 126 < c.toNat
        · have hq : quote1 c = [92, 120, hexDig (c.toNat / 16), hexDig (c.toNat % 16)] := by unfold quote1; rw [if_neg h1, if_pos h2]
          have HQ := Lib.hid hq
          have n39 : ((c.toNat : Int) == 39) = false := byte_ne 39 (by decide) (fun e => h1 (.inl e))
          have n92 : ((c.toNat : Int) == 92) = false := byte_ne 92 (by decide) (fun e => h1 (.inr e))
          have b1 : (c.toNat : Int) < 32 ∨ 32 ≤ (c.toNat : Int) ∧ 126 < (c.toNat : Int) := by omega
          have WS := Lib.hid (writeString N N v bs ⟨#[92, 120]⟩ wr HB.out (by have := HLEN.out; show bs.length + 2 ≤ _; omega) HNW.out)
          clear h1 h2 hq
          rcases b1 with b1 | ⟨b1, b2⟩
          all_goals
            go_wp2_with fail
            refine WS.out.mono ?_
            rintro e w2 ⟨rfl, v2, hb2, fr2⟩
            obtain ⟨r1, r2, r3, r4, r5⟩ := q_keep HB.out hb2 fr2 HV.out HK.out HKNE.out HBEL.out HNW.out HC.out
            have hdi : c.toNat / 16 < digitsStr.size := by show _ < 16; omega
            have wb2 := writeByte N N v2 (bs ++ [92, 120]) (digitsStr[c.toNat / 16]'hdi) w2 hb2 (by have := HLEN.out; simp; omega) r4
            have WB2 := Lib.hid wb2
            clear wb2
            have HB2 := Lib.hid hb2
            have R1 := Lib.hid r1
            have R2 := Lib.hid r2
            have R3 := Lib.hid r3
            have R4 := Lib.hid r4
            have R5 := Lib.hid r5
            clear hb2 fr2 r1 r2 r3 r4 r5
            go_wp2_with fail
            refine WB2.out.mono ?_
            rintro e w3 ⟨rfl, v3, hb3, fr3⟩
            rw [dig_eq _ (by omega)] at hb3
            obtain ⟨r1, r2, r3, r4, r5⟩ := q_keep HB2.out hb3 fr3 R1.out R2.out HKNE.out R3.out R4.out R5.out
            have HB3 := Lib.hid hb3
            have S1 := Lib.hid r1
            have S2 := Lib.hid r2
            have S3 := Lib.hid r3
            have S4 := Lib.hid r4
            have S5 := Lib.hid r5
            clear hb3 fr3 r1 r2 r3 r4 r5 WB2 WS HB2 R1 R2 R3 R4 R5
            go_wp2_with fail
            have hdi2 : c.toNat % 16 < digitsStr.size := by show _ < 16; omega
            have wb3 := writeByte N N v3 (bs ++ [92, 120] ++ [hexDig (c.toNat / 16)]) (digitsStr[c.toNat % 16]'hdi2) w3 HB3.out (by have := HLEN.out; simp; omega) S4.out
            have WB3 := Lib.hid wb3
            clear wb3
            refine WB3.out.mono ?_
            rintro e w4 ⟨rfl, v4, hb4, fr4⟩
            rw [dig_eq _ (by omega)] at hb4
            have HB4 := Lib.hid hb4
            have FR4 := Lib.hid fr4
            clear hb4 fr4 WB3
            go_wp2_with fail
            go_roundw
            case rel =>
              obtain ⟨r1, r2, r3, r4, r5⟩ := q_keep HB3.out HB4.out FR4.out S1.out S2.out HKNE.out S3.out S4.out S5.out
              exact ⟨k + 1, by go_num, by omega, v4, by rw [HBS.out, HQ.out]; simpa using HB4.out, r1, r2, HKNE.out, r3, r4, r5⟩
            case measure => simp [intOf]; omega
        · have n39 : ((c.toNat : Int) == 39) = false := byte_ne 39 (by decide) (fun e => h1 (.inl e))
          have n92 : ((c.toNat : Int) == 92) = false := byte_ne 92 (by decide) (fun e => h1 (.inr e))
          have b1 : 32 ≤ (c.toNat : Int) := by omega
          have b2 : (c.toNat : Int) ≤ 126 := by omega
          have hq : quote1 c = [c] := by unfold quote1; rw [if_neg h1, if_neg h2]
          have HQ := Lib.hid hq
          have WB := Lib.hid (writeByte N N v bs c wr HB.out (by have := HLEN.out; omega) HNW.out)
          clear h1 h2 hq
          go_wp2_with (go_at_call 199; refine WB.out.mono ?_; rintro e w2 ⟨rfl, v2, hb2, fr2⟩)
          go_roundw
          case rel =>
            obtain ⟨r1, r2, r3, r4, r5⟩ := q_keep HB.out hb2 fr2 HV.out HK.out HKNE.out HBEL.out HNW.out HC.out
            exact ⟨k + 1, by go_num, by omega, v2, by rw [HBS.out, HQ.out]; exact hb2, r1, r2, HKNE.out, r3, r4, r5⟩
          case measure => simp [intOf]; omega
    · have hk2 : k = s.size := by omega
      subst hk2
      have hbs2 : 39 :: (s.data.toList.take s.size).flatMap quote1 ++ [39] = quoteL s.data.toList := by
        rw [List.take_of_length_le (by omega)]; rfl
      generalize hbs : 39 :: (s.data.toList.take s.size).flatMap quote1 = bs at hb hbs2
      have hbl : bs.length + 1 ≤ 140737488355328 := by rw [← hbs, List.length_cons]; omega
      have hw := writeByte N N v bs 39 wr hb hbl hNw
      rw [show (((39 : UInt8).toNat : Nat) : Int) = 39 from rfl] at hw
      have WB := Lib.hid hw
      have HBS := Lib.hid hbs2
      have HB := Lib.hid hb
      have HBEL := Lib.hid hbel
      have HNW := Lib.hid hNw
      clear hb hv hK hKNe hbel hNw hc hbs hbs2 hbl hw hql hls hr
      go_wp2_with fail
      refine WB.out.mono ?_
      rintro e w2 ⟨rfl, v2, hb2, fr2⟩
      have ST := Lib.hid (string_any N N v2 _ w2 hb2 (Nat.le_trans HNW.out fr2.size))
      have HB2 : Hid (Below N w w2) := HBEL.out.trans (fr2.below HB.out)
      clear hb2 fr2
      go_wp2_with fail
      refine ST.out.mono ?_
      rintro e w3 ⟨rfl, hb3⟩
      go_wp2_with fail
      go_ret
      exact ⟨by rw [← HBS.out]; rfl, by rw [HKN.out.2]; exact HB2.out.trans hb3⟩
end Go.Proofs.YtneekcggbnodnaaGreatDoor
