/- The reference's text answers as the plain function does. -/
import Derived.Test.YtneekcggbnodnaaGreatDoorLexRefMore
import Derived.Laws.IdiomStrings
namespace Go.Proofs.YtneekcggbnodnaaGreatDoor
open Go Go.RowKit Go.Lib
set_option linter.unusedSimpArgs false
set_option linter.unusedVariables false

theorem bytes_back {B : Nat} {w : World} {v : Value} {bs : List UInt8} (h : w.ownsRow B 5 1 v bs.length (byteCells bs)) : (convert 351 9 v).run Tryz.prog w = .ok (.string ⟨bs.toArray⟩) w := by
  rcases h.2 with ⟨rfl, h0⟩ | ⟨g, cap, cur, rfl, _⟩
  · obtain rfl : bs = [] := List.eq_nil_of_length_eq_zero h0
    rw [Go.run_convert_bytes_string (P := Tryz.prog) w 351 9 5 none 0 0 Tryz.underlying351 Tryz.underlying5 Tryz.underlying9]
    rfl
  · refine Go.run_convert_bytes_back (P := Tryz.prog) w 351 9 5 ⟨g, 0, none⟩ cap bs Tryz.underlying351 Tryz.underlying5 Tryz.underlying9 (fun j hj => ?_)
    rw [Addr.add_lit, Nat.zero_add, World.ownsRow.cellAt h j (by omega)]
    simp [byteCells, hj]
def TextREnd (size : Nat) (T : Option (List UInt8 × List UInt8)) (w : World) (e : Ending) (w' : World) : Prop :=
  Below w.heap.size w w' ∧ match T with
    | some (o, q) => e = .returned (.tuple #[.string ⟨o.toArray⟩, .int .i64 ((size : Int) - (q.length : Int) + 1)])
    | none => e = .returned (.tuple #[.string ⟨#[]⟩, .int .i64 0])
/-- At each round's head. -/
def RT (N f0 : Nat) (s : ByteArray) (T : Option (List UInt8 × List UInt8)) (w : World) (k : Nat) (v : Value) (wr : World) : Prop :=
  ∃ (acc : List UInt8) (f : Nat), textEnd f acc (s.data.toList.drop k) = T ∧ s.size - k < f ∧ acc.length ≤ k ∧ wr.ownsRow N 5 1 v acc.length (byteCells acc) ∧ Below N w wr ∧ N ≤ wr.heap.size
theorem rt_grow {N f0 k n f1 : Nat} {s : ByteArray} {T : Option (List UInt8 × List UInt8)} {w wr w2 : World} {o : Obj} {v v' : Value} {acc : List UInt8} {d : UInt8} (hte : textEnd f1 (acc ++ [d]) ((s.data.toList.drop k).drop n) = T) (hn : 1 ≤ n) (hf : s.size - k < f1 + 1) (hk : k < s.size) (ha : acc.length ≤ k)
    (hown : wr.ownsRow N 5 1 v acc.length (byteCells acc)) (hb : Below N w wr) (hN : N ≤ wr.heap.size) (h : w2.ownsRow N 5 1 v' (acc.length + 1) (byteCells acc ++ [.int .u8 (d.toNat : Int)])) (hg : (wr.alloc o).grownBy w2 v.ownBlock) :
    Hid (RT N f0 s T w (k + n) v' w2) := by
  refine ⟨acc ++ [d], f1, ?_, by omega, by simp; omega, ?_, ?_, ?_⟩
  · rw [← hte, List.drop_drop]
  · simpa [byteCells] using h
  · exact (hb.alloc hN o).grown hg (by simp; omega) (fun k hk => (hown.lt k hk).1)
  · have := hg.size
    simp at this
    omega
set_option maxHeartbeats 8000000 in
set_option maxRecDepth 100000 in
theorem refText_any (s : ByteArray) (hs : s.size ≤ 1000000) (hs1 : 1 ≤ s.size) (f : Nat) (hf : s.size < f) (w : World) : Calls Tryz.prog 131 #[.string s] w (TextREnd s.size (textEnd f [] (s.data.toList.drop 1)) w) := by
  obtain ⟨i0, hi, hz0, hz1, hz2⟩ := info_parts infoByte
  have hl : s.data.toList.length = s.size := by simp
  generalize hT : textEnd f [] (s.data.toList.drop 1) = T
  have hrel0 : Hid (RT w.heap.size f s T w 1 (.slice none 0 0) w) := ⟨[], f, hT, by omega, by simp, World.ownsRow_nil _ _ _ _, Below.refl _ _, Nat.le_refl _⟩
  have HL := Lib.hid hl
  have HLS : (1 : Int) ≤ (s.size : Int) := by omega
  clear hT hl hf
  go_enter Tryz.func131, Tryz.ntmps131
  go_wp2_with fail
  generalize hN : w.heap.size = N at hrel0
  have HN := Lib.hid hN
  clear hN
  go_loopw [4, 5] (fun v i wr => ∃ k : Nat, i = .int .i64 k ∧ 1 ≤ k ∧ k ≤ s.size ∧ Hid (RT N f s T w k v wr)) (fun _ i _ => s.size - (intOf i).toNat)
  case atStart => exact ⟨1, rfl, Nat.le_refl _, hs1, hrel0⟩
  case round =>
    obtain ⟨k, rfl, hk1, hk, hr⟩ := hrel
    obtain ⟨acc, f', hte, hft, hal, hown, hbel, hNw⟩ := hr.out
    obtain ⟨f1, rfl⟩ : ∃ f1, f' = f1 + 1 := ⟨f' - 1, by omega⟩
    have hll : s.data.toList.length = s.size := HL.out
    by_cases hlt : k < s.size
    · have hdrop : s.data.toList.drop k = s[k] :: s.data.toList.drop (k + 1) := by
        rw [byte_at, List.drop_eq_getElem_cons (by omega)]
      generalize hc : s[k] = c at hdrop
      have hc2 := c.toNat_lt
      rw [hdrop] at hte
      have HC := Lib.hid hc
      have HO := Lib.hid hown
      have HBEL := Lib.hid hbel
      have HNW := Lib.hid hNw
      have HAL := Lib.hid hal
      have HFT := Lib.hid hft
      have hkk : (s.size : Int) - ((s.data.toList.drop k).length : Int) + 1 = (k : Int) + 1 := by rw [List.length_drop]; omega
      have HKK := Lib.hid hkk
      have HD := Lib.hid hdrop
      clear hown hbel hNw hal hft hr hkk
      by_cases h10 : c = 10
      · have n39 : ((s[k].toNat : Int) == 39) = false := by rw [HC.out, h10]; decide
        have e10 : ((s[k].toNat : Int) == 10) = true := by rw [HC.out, h10]; decide
        have hTn : T = none := by rw [← hte]; simp [textEnd, h10]
        have HTN := Lib.hid hTn
        clear hte hll hTn hc hdrop h10
        go_wp2
        go_ret2
        exact ⟨by rw [HN.out]; exact HBEL.out, by rw [HTN.out]; rfl⟩
      · by_cases h39 : c = 39
        · have n39 : ((s[k].toNat : Int) == 39) = true := by rw [HC.out, h39]; decide
          have hTs : T = some (acc, c :: s.data.toList.drop (k + 1)) := by rw [← hte]; simp [textEnd, h39]
          rw [← hdrop] at hTs
          have HTS := Lib.hid hTs
          have hcv := bytes_back HO.out
          clear hte hll hTs hc hdrop h10 h39
          go_wp2_with fail
          go_ret2
          refine ⟨by rw [HN.out]; exact HBEL.out, ?_⟩
          rw [HTS.out]
          show _ = Ending.returned (.tuple #[.string ⟨acc.toArray⟩, .int .i64 ((s.size : Int) - ((s.data.toList.drop k).length : Int) + 1)])
          rw [HKK.out]
          rfl
        · have n39 : ((s[k].toNat : Int) == 39) = false := by rw [HC.out]; exact byte_ne 39 (by decide) h39
          have e10 : ((s[k].toNat : Int) == 10) = false := by rw [HC.out]; exact byte_ne 10 (by decide) h10
          by_cases h92 : c = 92
          · subst h92
            have e92 : ((s[k].toNat : Int) == 92) = true := by rw [HC.out]; decide
            have hte2 : (match esc (92 :: s.data.toList.drop (k + 1)) with | none => none | some (d, n) => textEnd f1 (acc ++ [d]) ((92 :: s.data.toList.drop (k + 1)).drop n)) = T := by
              rw [← hte]; simp [textEnd]; rcases esc (92 :: s.data.toList.drop (k + 1)) with _ | ⟨d, n⟩ <;> rfl
            have hLd : (s.extract k s.size).data.toList = 92 :: s.data.toList.drop (k + 1) := by rw [drop_list, hdrop]
            have hsz : (s.extract k s.size).size ≤ 1000000 := by rw [drop_size]; omega
            have m1 : (0 : Int) ≤ (k : Int) := by omega
            have m2 : (k : Int) ≤ (s.size : Int) := by omega
            rcases he : esc (92 :: s.data.toList.drop (k + 1)) with _ | ⟨d, n⟩
            · rw [he] at hte2
              have HTN : Hid (T = none) := hte2.symm
              have ES := Lib.hid (escape_no _ _ hLd hsz he)
              clear hte hll hte2 hLd hsz he hc hdrop h10 h39
              go_wp2_with (go_at_call 209; refine (ES.out _).mono ?_; rintro e w2 ⟨rfl, m, rfl⟩)
              go_ret2
              exact ⟨by rw [HN.out]; exact below_drewN HBEL.out _, by rw [HTN.out]; rfl⟩
            · rw [he] at hte2
              simp only [] at hte2
              rw [← hdrop] at hte2
              obtain ⟨n2, nl, _⟩ := esc_le he
              have hnk : k + n ≤ s.size := by
                have := congrArg List.length hdrop
                rw [List.length_drop, List.length_cons] at this
                rw [List.length_cons] at nl
                omega
              have HTS := Lib.hid hte2
              have ES := Lib.hid (escape_yes _ _ hLd hsz d n he)
              have mn : (0 : Int) ≤ (n : Int) := by omega
              have mn0 : ((n : Int) == 0) = false := by
                apply beq_false_of_ne
                omega
              have mn2 : (k : Int) + (n : Int) ≤ (s.size : Int) := by omega
              have N2 := Lib.hid n2
              clear hte hll hte2 hLd hsz he hc hdrop h10 h39 n2 nl
              go_wp2_with fail
              refine (ES.out _).mono ?_
              rintro e w2 ⟨rfl, m, rfl⟩
              have HO2 : Hid ((wr.drewN m).ownsRow N 5 1 _ acc.length (byteCells acc)) := HO.out
              have HB2 : Hid (Below N w (wr.drewN m)) := below_drewN HBEL.out m
              have HNW2 : Hid (N ≤ (wr.drewN m).heap.size) := HNW.out
              generalize wr.drewN m = w2 at HO2 HB2 HNW2 ⊢
              go_wp2_with (at_builtin; refine wpList_append_own_at _ rfl _ _ 351 rfl N 5 i0 (.int .u8 0) 1 1 Tryz.underlying351 hi hz0 hz1 hz2 rfl (by decide) _ _ _ rfl (HO2.out.alloc _) ⟨w2.heap.size, 0, none⟩ 1 1 [.int .u8 (d.toNat : Int)] rfl rfl ?c1 ?c2 ?c3 ?c4 ?c5 ?_)
              case c1 =>
                intro j u hj
                match j, hj with
                | 0, hj => simp at hj; subst hj; simp [Addr.add]
              case c2 => intro u hu; simp at hu; subst hu; rfl
              case c3 => have := HAL.out; unfold maxLen; omega
              case c4 => have := HAL.out; omega
              case c5 => have := HNW2.out; simp; omega
              intro v' w3 hown' hgrow _ hat
              have HR := rt_grow (f0 := f) HTS.out (by have := N2.out; omega) HFT.out hlt HAL.out HO2.out HB2.out HNW2.out hown' hgrow
              clear hown' hgrow hat
              go_wp2_with fail
              go_roundw
              case rel => exact ⟨k + n, by go_num, by omega, by omega, HR⟩
              case measure => have := N2.out; simp [intOf]; omega
          · have e92 : ((s[k].toNat : Int) == 92) = false := by rw [HC.out]; exact byte_ne 92 (by decide) h92
            have hTs : textEnd f1 (acc ++ [c]) ((s.data.toList.drop k).drop 1) = T := by rw [hdrop, ← hte]; simp [textEnd, h39, h10, h92]
            have HTS := Lib.hid hTs
            have e0 : (s[k].toNat : Int) = (c.toNat : Int) := by rw [HC.out]
            have E0 := Lib.hid e0
            clear hte hll hTs hc hdrop h10 h39 h92 e0
            go_wp2_with (at_builtin; refine wpList_append_own_at _ rfl _ _ 351 rfl N 5 i0 (.int .u8 0) 1 1 Tryz.underlying351 hi hz0 hz1 hz2 rfl (by decide) _ _ _ rfl (HO.out.alloc _) ⟨wr.heap.size, 0, none⟩ 1 1 [.int .u8 (s[k].toNat : Int)] rfl rfl ?c1 ?c2 ?c3 ?c4 ?c5 ?_)
            case c1 =>
              intro j u hj
              match j, hj with
              | 0, hj => simp at hj; subst hj; simp [Addr.add]
            case c2 => intro u hu; simp at hu; subst hu; rfl
            case c3 => have := HAL.out; unfold maxLen; omega
            case c4 => have := HAL.out; omega
            case c5 => have := HNW.out; simp; omega
            intro v' w3 hown' hgrow _ hat
            rw [E0.out] at hown'
            have HR := rt_grow (f0 := f) HTS.out (by omega) HFT.out hlt HAL.out HO.out HBEL.out HNW.out hown' hgrow
            clear hown' hgrow hat
            go_wp2_with fail
            go_roundw
            case rel => exact ⟨k + 1, by go_num, by omega, by omega, HR⟩
            case measure => simp [intOf]; omega
    · have hz : s.data.toList.drop k = [] := List.drop_eq_nil_of_le (by omega)
      have hTn : T = none := by rw [← hte, hz]; rfl
      have HTN := Lib.hid hTn
      have HBEL := Lib.hid hbel
      clear hte hll hTn hz hown hbel hNw hal hft hr
      go_wp2
      go_ret2
      exact ⟨by rw [HN.out]; exact HBEL.out, by rw [HTN.out]; rfl⟩
end Go.Proofs.YtneekcggbnodnaaGreatDoor
